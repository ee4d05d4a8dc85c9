/-
  AES, plainly: bytes as polynomials, boxes, words, blocks turned and turned back. No condition; no program in sight.
-/
import Derived.KernelRfl
import Derived.NoCompiler
namespace Go.Proofs.Ytnadgjlmlnhknaa

/-! ### Bytes as polynomials -/
def gdbl (a : Nat) : Nat := if 128 ≤ a then (2 * a % 256) ^^^ 27 else 2 * a
def gmulTo : Nat → Nat → Nat → Nat → Nat
  | 0, out, _, _ => out
  | n + 1, out, a, b => gmulTo n (if b % 2 = 1 then out ^^^ a else out) (gdbl a) (b / 2)
def gmul (a b : Nat) : Nat := gmulTo 8 0 a b
def gpowTo : Nat → Nat → Nat → Nat → Nat
  | 0, out, _, _ => out
  | f + 1, out, a, n => if n = 0 then out else gpowTo f (if n % 2 = 1 then gmul out a else out) (gmul a a) (n / 2)
def gpow (a n : Nat) : Nat := gpowTo 8 1 a n
def ginv (a : Nat) : Nat := if a = 0 then 0 else gpow a 254
def rotl8 (b k : Nat) : Nat := (b * 2 ^ k % 256) ||| (b / 2 ^ (8 - k))
def gbox (a : Nat) : Nat := ginv a ^^^ 99 ^^^ rotl8 (ginv a) 1 ^^^ rotl8 (ginv a) 2 ^^^ rotl8 (ginv a) 3 ^^^ rotl8 (ginv a) 4
def unbTo : Nat → List Nat
  | 0 => List.replicate 256 0
  | k + 1 => (unbTo k).set (gbox k) k
def gunb (a : Nat) : Nat := (unbTo 256).getD a 0

theorem xor_lt8 {a b : Nat} (ha : a < 256) (hb : b < 256) : a ^^^ b < 256 := Nat.xor_lt_two_pow (n := 8) ha hb
theorem gdbl_lt {a : Nat} (h : a < 256) : gdbl a < 256 := by
  unfold gdbl
  split
  · exact xor_lt8 (Nat.mod_lt _ (by decide)) (by decide)
  · omega
theorem gmulTo_lt : ∀ n out a b, out < 256 → a < 256 → gmulTo n out a b < 256
  | 0, _, _, _, h, _ => h
  | n + 1, out, a, b, h, ha => by
    unfold gmulTo
    refine gmulTo_lt n _ _ _ ?_ (gdbl_lt ha)
    split
    · exact xor_lt8 h ha
    · exact h
theorem gmul_lt {a : Nat} (b : Nat) (ha : a < 256) : gmul a b < 256 := gmulTo_lt 8 0 a b (by decide) ha
theorem gpowTo_lt : ∀ f out a n, out < 256 → a < 256 → gpowTo f out a n < 256
  | 0, _, _, _, h, _ => h
  | f + 1, out, a, n, h, ha => by
    unfold gpowTo
    split
    · exact h
    · refine gpowTo_lt f _ _ _ ?_ (gmul_lt _ ha)
      split
      · exact gmul_lt _ h
      · exact h
theorem gpow_lt {a : Nat} (n : Nat) (ha : a < 256) : gpow a n < 256 := gpowTo_lt 8 1 a n (by decide) ha
theorem ginv_lt {a : Nat} (ha : a < 256) : ginv a < 256 := by
  unfold ginv
  split
  · decide
  · exact gpow_lt _ ha
theorem rotl8_lt {b k : Nat} (hb : b < 256) : rotl8 b k < 256 :=
  Nat.or_lt_two_pow (n := 8) (Nat.mod_lt _ (by decide)) (Nat.lt_of_le_of_lt (Nat.div_le_self _ _) hb)
theorem gbox_lt {a : Nat} (ha : a < 256) : gbox a < 256 := by
  have h := ginv_lt ha
  unfold gbox
  exact xor_lt8 (xor_lt8 (xor_lt8 (xor_lt8 (xor_lt8 h (by decide)) (rotl8_lt h)) (rotl8_lt h)) (rotl8_lt h)) (rotl8_lt h)

theorem gmulTo_xor : ∀ n o1 o2 f a b, gmulTo n (o1 ^^^ o2) f (a ^^^ b) = gmulTo n o1 f a ^^^ gmulTo n o2 f b
  | 0, _, _, _, _, _ => rfl
  | n + 1, o1, o2, f, a, b => by
    have e2 : (a ^^^ b) / 2 = a / 2 ^^^ b / 2 := Nat.xor_div_two
    have em : (a ^^^ b) % 2 = (a % 2 + b % 2) % 2 := by
      have h := @Nat.xor_mod_two_pow a b 1
      rw [Nat.pow_one] at h
      rw [h]
      rcases Nat.mod_two_eq_zero_or_one a with ha | ha <;> rcases Nat.mod_two_eq_zero_or_one b with hb | hb <;> simp [ha, hb]
    unfold gmulTo
    rw [e2, ← gmulTo_xor n]
    congr 1
    rw [em]
    have ha := Nat.mod_two_eq_zero_or_one a
    have hb := Nat.mod_two_eq_zero_or_one b
    rcases ha with ha | ha <;> rcases hb with hb | hb <;> simp [ha, hb]
    · rw [Nat.xor_assoc]
    · rw [Nat.xor_assoc, Nat.xor_comm o2 f, Nat.xor_assoc]
    · rw [Nat.xor_assoc, ← Nat.xor_assoc f, Nat.xor_comm f, Nat.xor_assoc o2, Nat.xor_self, Nat.xor_zero]
theorem gmul_xor (f a b : Nat) : gmul f (a ^^^ b) = gmul f a ^^^ gmul f b := gmulTo_xor 8 0 0 f a b

theorem unb_box : ∀ a, a < 256 → gunb (gbox a) = a := by
  have h : (List.range 256).all (fun a => (unbTo 256).getD (gbox a) 0 == a) = true := by decide +kernel
  intro a ha
  have := List.all_eq_true.1 h a (List.mem_range.2 ha)
  simpa [gunb] using this
theorem unb_lt_box : ∀ a, a < 256 → gunb a < 256 ∧ gbox (gunb a) = a := by
  have h : (List.range 256).all (fun a => decide ((unbTo 256).getD a 0 < 256) && gbox ((unbTo 256).getD a 0) == a) = true := by decide +kernel
  intro a ha
  have := List.all_eq_true.1 h a (List.mem_range.2 ha)
  simpa [gunb] using this

/-- What holds of each byte, by trying all. -/
theorem of_all {p : Nat → Bool} (h : (List.range 256).all p = true) {a : Nat} (ha : a < 256) : p a = true := List.all_eq_true.1 h a (List.mem_range.2 ha)

theorem mixA {a : Nat} (ha : a < 256) : gmul 14 (gmul 2 a) ^^^ gmul 11 (gmul 1 a) ^^^ gmul 13 (gmul 1 a) ^^^ gmul 9 (gmul 3 a) = a :=
  eq_of_beq (of_all (p := fun a => gmul 14 (gmul 2 a) ^^^ gmul 11 (gmul 1 a) ^^^ gmul 13 (gmul 1 a) ^^^ gmul 9 (gmul 3 a) == a) (by decide +kernel) ha)
theorem mixB {a : Nat} (ha : a < 256) : gmul 14 (gmul 3 a) ^^^ gmul 11 (gmul 2 a) ^^^ gmul 13 (gmul 1 a) ^^^ gmul 9 (gmul 1 a) = 0 :=
  eq_of_beq (of_all (p := fun a => gmul 14 (gmul 3 a) ^^^ gmul 11 (gmul 2 a) ^^^ gmul 13 (gmul 1 a) ^^^ gmul 9 (gmul 1 a) == 0) (by decide +kernel) ha)
theorem mixC {a : Nat} (ha : a < 256) : gmul 14 (gmul 1 a) ^^^ gmul 11 (gmul 3 a) ^^^ gmul 13 (gmul 2 a) ^^^ gmul 9 (gmul 1 a) = 0 :=
  eq_of_beq (of_all (p := fun a => gmul 14 (gmul 1 a) ^^^ gmul 11 (gmul 3 a) ^^^ gmul 13 (gmul 2 a) ^^^ gmul 9 (gmul 1 a) == 0) (by decide +kernel) ha)
theorem mixD {a : Nat} (ha : a < 256) : gmul 14 (gmul 1 a) ^^^ gmul 11 (gmul 1 a) ^^^ gmul 13 (gmul 3 a) ^^^ gmul 9 (gmul 2 a) = 0 :=
  eq_of_beq (of_all (p := fun a => gmul 14 (gmul 1 a) ^^^ gmul 11 (gmul 1 a) ^^^ gmul 13 (gmul 3 a) ^^^ gmul 9 (gmul 2 a) == 0) (by decide +kernel) ha)
theorem nixA {a : Nat} (ha : a < 256) : gmul 2 (gmul 14 a) ^^^ gmul 3 (gmul 9 a) ^^^ gmul 1 (gmul 13 a) ^^^ gmul 1 (gmul 11 a) = a :=
  eq_of_beq (of_all (p := fun a => gmul 2 (gmul 14 a) ^^^ gmul 3 (gmul 9 a) ^^^ gmul 1 (gmul 13 a) ^^^ gmul 1 (gmul 11 a) == a) (by decide +kernel) ha)
theorem nixB {a : Nat} (ha : a < 256) : gmul 2 (gmul 11 a) ^^^ gmul 3 (gmul 14 a) ^^^ gmul 1 (gmul 9 a) ^^^ gmul 1 (gmul 13 a) = 0 :=
  eq_of_beq (of_all (p := fun a => gmul 2 (gmul 11 a) ^^^ gmul 3 (gmul 14 a) ^^^ gmul 1 (gmul 9 a) ^^^ gmul 1 (gmul 13 a) == 0) (by decide +kernel) ha)
theorem nixC {a : Nat} (ha : a < 256) : gmul 2 (gmul 13 a) ^^^ gmul 3 (gmul 11 a) ^^^ gmul 1 (gmul 14 a) ^^^ gmul 1 (gmul 9 a) = 0 :=
  eq_of_beq (of_all (p := fun a => gmul 2 (gmul 13 a) ^^^ gmul 3 (gmul 11 a) ^^^ gmul 1 (gmul 14 a) ^^^ gmul 1 (gmul 9 a) == 0) (by decide +kernel) ha)
theorem nixD {a : Nat} (ha : a < 256) : gmul 2 (gmul 9 a) ^^^ gmul 3 (gmul 13 a) ^^^ gmul 1 (gmul 11 a) ^^^ gmul 1 (gmul 14 a) = 0 :=
  eq_of_beq (of_all (p := fun a => gmul 2 (gmul 9 a) ^^^ gmul 3 (gmul 13 a) ^^^ gmul 1 (gmul 11 a) ^^^ gmul 1 (gmul 14 a) == 0) (by decide +kernel) ha)

/-! ### Blocks of sixteen bytes -/
def addF (W : Nat → Nat) (r : Nat) (b : Nat → Nat) : Nat → Nat := fun i => b i ^^^ W (16 * r + i)
def rowsF (T : Nat → Nat) (b : Nat → Nat) : Nat → Nat := fun i => T (b ((i + 4 * (i % 4)) % 16))
def rowsB (T : Nat → Nat) (b : Nat → Nat) : Nat → Nat := fun i => T (b ((i + 12 * (i % 4)) % 16))
def colsF (f0 f1 f2 f3 : Nat) (b : Nat → Nat) : Nat → Nat := fun i =>
  gmul f0 (b (4 * (i / 4) + (i + 0) % 4)) ^^^ gmul f1 (b (4 * (i / 4) + (i + 1) % 4)) ^^^ gmul f2 (b (4 * (i / 4) + (i + 2) % 4)) ^^^ gmul f3 (b (4 * (i / 4) + (i + 3) % 4))
def turnTo (W b : Nat → Nat) : Nat → Nat → Nat
  | 0 => addF W 0 b
  | r + 1 => addF W (r + 1) (if r + 1 < 14 then colsF 2 3 1 1 (rowsF gbox (turnTo W b r)) else rowsF gbox (turnTo W b r))
def turnF (W b : Nat → Nat) : Nat → Nat := turnTo W b 14
def backTo (W b : Nat → Nat) : Nat → Nat → Nat
  | 0 => b
  | k + 1 => rowsB gunb (if 14 - k < 14 then colsF 14 11 13 9 (addF W (14 - k) (backTo W b k)) else addF W (14 - k) (backTo W b k))
def backF (W b : Nat → Nat) : Nat → Nat := addF W 0 (backTo W b 14)

/-- Two blocks are one. -/
def Same16 (x y : Nat → Nat) : Prop := ∀ i, i < 16 → x i = y i
/-- All are bytes. -/
def Bytes16 (x : Nat → Nat) : Prop := ∀ i, i < 16 → x i < 256
theorem Same16.refl (x : Nat → Nat) : Same16 x x := fun _ _ => rfl
theorem Same16.trans {x y z : Nat → Nat} (h : Same16 x y) (k : Same16 y z) : Same16 x z := fun i hi => (h i hi).trans (k i hi)
theorem Same16.symm {x y : Nat → Nat} (h : Same16 x y) : Same16 y x := fun i hi => (h i hi).symm
theorem Same16.add {x y : Nat → Nat} (h : Same16 x y) (W : Nat → Nat) (r : Nat) : Same16 (addF W r x) (addF W r y) := fun i hi => by unfold addF; rw [h i hi]
theorem Same16.rows {x y : Nat → Nat} (h : Same16 x y) (T : Nat → Nat) : Same16 (rowsF T x) (rowsF T y) := fun i _ => by unfold rowsF; rw [h _ (Nat.mod_lt _ (by decide))]
theorem Same16.rowsB {x y : Nat → Nat} (h : Same16 x y) (T : Nat → Nat) : Same16 (rowsB T x) (rowsB T y) := fun i _ => by unfold Proofs.Ytnadgjlmlnhknaa.rowsB; rw [h _ (Nat.mod_lt _ (by decide))]
theorem Same16.cols {x y : Nat → Nat} (h : Same16 x y) (a b c d : Nat) : Same16 (colsF a b c d x) (colsF a b c d y) := fun i hi => by
  unfold colsF; rw [h _ (by omega), h _ (by omega), h _ (by omega), h _ (by omega)]
theorem Bytes16.add {x : Nat → Nat} (h : Bytes16 x) {W : Nat → Nat} (hW : ∀ i, W i < 256) (r : Nat) : Bytes16 (addF W r x) := fun i hi => xor_lt8 (h i hi) (hW _)
theorem Bytes16.rows {x : Nat → Nat} (h : Bytes16 x) : Bytes16 (rowsF gbox x) := fun i _ => gbox_lt (h _ (Nat.mod_lt _ (by decide)))
theorem Bytes16.rowsB {x : Nat → Nat} (h : Bytes16 x) : Bytes16 (rowsB gunb x) := fun i _ => (unb_lt_box _ (h _ (Nat.mod_lt _ (by decide)))).1
theorem Bytes16.cols {x : Nat → Nat} (_ : Bytes16 x) {a b c d : Nat} (ha : a < 256) (hb : b < 256) (hc : c < 256) (hd : d < 256) : Bytes16 (colsF a b c d x) := fun i _ =>
  xor_lt8 (xor_lt8 (xor_lt8 (gmul_lt _ ha) (gmul_lt _ hb)) (gmul_lt _ hc)) (gmul_lt _ hd)

theorem add_add (W x : Nat → Nat) (r : Nat) : addF W r (addF W r x) = x := by
  funext i
  unfold addF
  rw [Nat.xor_assoc, Nat.xor_self, Nat.xor_zero]
theorem rowsB_rows {x : Nat → Nat} (h : Bytes16 x) : Same16 (rowsB gunb (rowsF gbox x)) x := fun i hi => by
  unfold rowsB rowsF
  rw [unb_box _ (h _ (Nat.mod_lt _ (by decide)))]
  congr 1
  omega
theorem rows_rowsB {x : Nat → Nat} (h : Bytes16 x) : Same16 (rowsF gbox (rowsB gunb x)) x := fun i hi => by
  unfold rowsB rowsF
  rw [(unb_lt_box _ (h _ (Nat.mod_lt _ (by decide)))).2]
  congr 1
  omega
theorem xor_group (a0 a1 a2 a3 b0 b1 b2 b3 c0 c1 c2 c3 d0 d1 d2 d3 : Nat) :
    (a0 ^^^ b0 ^^^ c0 ^^^ d0) ^^^ (b1 ^^^ c1 ^^^ d1 ^^^ a1) ^^^ (c2 ^^^ d2 ^^^ a2 ^^^ b2) ^^^ (d3 ^^^ a3 ^^^ b3 ^^^ c3) =
      (a0 ^^^ a1 ^^^ a2 ^^^ a3) ^^^ (b0 ^^^ b1 ^^^ b2 ^^^ b3) ^^^ (c0 ^^^ c1 ^^^ c2 ^^^ c3) ^^^ (d0 ^^^ d1 ^^^ d2 ^^^ d3) := by
  ac_rfl

theorem cols_back {x : Nat → Nat} (h : Bytes16 x) : Same16 (colsF 14 11 13 9 (colsF 2 3 1 1 x)) x := fun i hi => by
  have h0 := h (4 * (i / 4) + (i + 0) % 4) (by omega)
  have h1 := h (4 * (i / 4) + (i + 1) % 4) (by omega)
  have h2 := h (4 * (i / 4) + (i + 2) % 4) (by omega)
  have h3 := h (4 * (i / 4) + (i + 3) % 4) (by omega)
  have col : ∀ k, k < 4 → colsF 2 3 1 1 x (4 * (i / 4) + (i + k) % 4) = gmul 2 (x (4 * (i / 4) + (i + k) % 4)) ^^^ gmul 3 (x (4 * (i / 4) + (i + (k + 1) % 4) % 4)) ^^^ gmul 1 (x (4 * (i / 4) + (i + (k + 2) % 4) % 4)) ^^^ gmul 1 (x (4 * (i / 4) + (i + (k + 3) % 4) % 4)) := fun k hk => by
    unfold colsF
    rw [show (4 * (i / 4) + (i + k) % 4) / 4 = i / 4 by omega, show (4 * (i / 4) + (i + k) % 4 + 0) % 4 = (i + k) % 4 by omega, show (4 * (i / 4) + (i + k) % 4 + 1) % 4 = (i + (k + 1) % 4) % 4 by omega,
      show (4 * (i / 4) + (i + k) % 4 + 2) % 4 = (i + (k + 2) % 4) % 4 by omega, show (4 * (i / 4) + (i + k) % 4 + 3) % 4 = (i + (k + 3) % 4) % 4 by omega]
  have e : colsF 14 11 13 9 (colsF 2 3 1 1 x) i = gmul 14 (colsF 2 3 1 1 x (4 * (i / 4) + (i + 0) % 4)) ^^^ gmul 11 (colsF 2 3 1 1 x (4 * (i / 4) + (i + 1) % 4)) ^^^ gmul 13 (colsF 2 3 1 1 x (4 * (i / 4) + (i + 2) % 4)) ^^^ gmul 9 (colsF 2 3 1 1 x (4 * (i / 4) + (i + 3) % 4)) := rfl
  rw [e, col 0 (by omega), col 1 (by omega), col 2 (by omega), col 3 (by omega)]
  have ei : x i = x (4 * (i / 4) + (i + 0) % 4) := by congr 1; omega
  rw [ei]
  simp only [Nat.reduceAdd, Nat.reduceMod] at *
  generalize x (4 * (i / 4) + (i + 0) % 4) = a at *
  generalize x (4 * (i / 4) + (i + 1) % 4) = b at *
  generalize x (4 * (i / 4) + (i + 2) % 4) = c at *
  generalize x (4 * (i / 4) + (i + 3) % 4) = d at *
  simp only [gmul_xor]
  have g := xor_group (gmul 14 (gmul 2 a)) (gmul 11 (gmul 1 a)) (gmul 13 (gmul 1 a)) (gmul 9 (gmul 3 a)) (gmul 14 (gmul 3 b)) (gmul 11 (gmul 2 b)) (gmul 13 (gmul 1 b)) (gmul 9 (gmul 1 b)) (gmul 14 (gmul 1 c)) (gmul 11 (gmul 3 c)) (gmul 13 (gmul 2 c)) (gmul 9 (gmul 1 c)) (gmul 14 (gmul 1 d)) (gmul 11 (gmul 1 d)) (gmul 13 (gmul 3 d)) (gmul 9 (gmul 2 d))
  rw [mixA h0, mixB h1, mixC h2, mixD h3] at g
  simp only [Nat.xor_zero] at g
  exact g
theorem back_cols {x : Nat → Nat} (h : Bytes16 x) : Same16 (colsF 2 3 1 1 (colsF 14 11 13 9 x)) x := fun i hi => by
  have h0 := h (4 * (i / 4) + (i + 0) % 4) (by omega)
  have h1 := h (4 * (i / 4) + (i + 1) % 4) (by omega)
  have h2 := h (4 * (i / 4) + (i + 2) % 4) (by omega)
  have h3 := h (4 * (i / 4) + (i + 3) % 4) (by omega)
  have col : ∀ k, k < 4 → colsF 14 11 13 9 x (4 * (i / 4) + (i + k) % 4) = gmul 14 (x (4 * (i / 4) + (i + k) % 4)) ^^^ gmul 11 (x (4 * (i / 4) + (i + (k + 1) % 4) % 4)) ^^^ gmul 13 (x (4 * (i / 4) + (i + (k + 2) % 4) % 4)) ^^^ gmul 9 (x (4 * (i / 4) + (i + (k + 3) % 4) % 4)) := fun k hk => by
    unfold colsF
    rw [show (4 * (i / 4) + (i + k) % 4) / 4 = i / 4 by omega, show (4 * (i / 4) + (i + k) % 4 + 0) % 4 = (i + k) % 4 by omega, show (4 * (i / 4) + (i + k) % 4 + 1) % 4 = (i + (k + 1) % 4) % 4 by omega,
      show (4 * (i / 4) + (i + k) % 4 + 2) % 4 = (i + (k + 2) % 4) % 4 by omega, show (4 * (i / 4) + (i + k) % 4 + 3) % 4 = (i + (k + 3) % 4) % 4 by omega]
  have e : colsF 2 3 1 1 (colsF 14 11 13 9 x) i = gmul 2 (colsF 14 11 13 9 x (4 * (i / 4) + (i + 0) % 4)) ^^^ gmul 3 (colsF 14 11 13 9 x (4 * (i / 4) + (i + 1) % 4)) ^^^ gmul 1 (colsF 14 11 13 9 x (4 * (i / 4) + (i + 2) % 4)) ^^^ gmul 1 (colsF 14 11 13 9 x (4 * (i / 4) + (i + 3) % 4)) := rfl
  rw [e, col 0 (by omega), col 1 (by omega), col 2 (by omega), col 3 (by omega)]
  have ei : x i = x (4 * (i / 4) + (i + 0) % 4) := by congr 1; omega
  rw [ei]
  simp only [Nat.reduceAdd, Nat.reduceMod] at *
  generalize x (4 * (i / 4) + (i + 0) % 4) = a at *
  generalize x (4 * (i / 4) + (i + 1) % 4) = b at *
  generalize x (4 * (i / 4) + (i + 2) % 4) = c at *
  generalize x (4 * (i / 4) + (i + 3) % 4) = d at *
  simp only [gmul_xor]
  have g := xor_group (gmul 2 (gmul 14 a)) (gmul 3 (gmul 9 a)) (gmul 1 (gmul 13 a)) (gmul 1 (gmul 11 a)) (gmul 2 (gmul 11 b)) (gmul 3 (gmul 14 b)) (gmul 1 (gmul 9 b)) (gmul 1 (gmul 13 b)) (gmul 2 (gmul 13 c)) (gmul 3 (gmul 11 c)) (gmul 1 (gmul 14 c)) (gmul 1 (gmul 9 c)) (gmul 2 (gmul 9 d)) (gmul 3 (gmul 13 d)) (gmul 1 (gmul 11 d)) (gmul 1 (gmul 14 d))
  rw [nixA h0, nixB h1, nixC h2, nixD h3] at g
  simp only [Nat.xor_zero] at g
  exact g

/-- A round between two words, forth. -/
def midF (r : Nat) (x : Nat → Nat) : Nat → Nat := if r < 14 then colsF 2 3 1 1 (rowsF gbox x) else rowsF gbox x
def midB (r : Nat) (x : Nat → Nat) : Nat → Nat := rowsB gunb (if r < 14 then colsF 14 11 13 9 x else x)
theorem Same16.midB {x y : Nat → Nat} (h : Same16 x y) (r : Nat) : Same16 (midB r x) (midB r y) := by
  unfold Go.Proofs.Ytnadgjlmlnhknaa.midB
  split
  · exact (h.cols _ _ _ _).rowsB _
  · exact h.rowsB _
theorem Same16.midF {x y : Nat → Nat} (h : Same16 x y) (r : Nat) : Same16 (midF r x) (midF r y) := by
  unfold Go.Proofs.Ytnadgjlmlnhknaa.midF
  split
  · exact (h.rows _).cols _ _ _ _
  · exact h.rows _
theorem midB_midF {x : Nat → Nat} (h : Bytes16 x) (r : Nat) : Same16 (midB r (midF r x)) x := by
  unfold midB midF
  split
  · exact ((cols_back h.rows).rowsB _).trans (rowsB_rows h)
  · exact rowsB_rows h
theorem Bytes16.midF {x : Nat → Nat} (h : Bytes16 x) (r : Nat) : Bytes16 (midF r x) := by
  unfold Go.Proofs.Ytnadgjlmlnhknaa.midF
  split
  · exact h.rows.cols (by decide) (by decide) (by decide) (by decide)
  · exact h.rows
theorem Bytes16.midB {x : Nat → Nat} (h : Bytes16 x) (r : Nat) : Bytes16 (midB r x) := by
  unfold Go.Proofs.Ytnadgjlmlnhknaa.midB
  split
  · exact (h.cols (by decide) (by decide) (by decide) (by decide)).rowsB
  · exact h.rowsB
theorem midF_midB {x : Nat → Nat} (h : Bytes16 x) (r : Nat) : Same16 (midF r (midB r x)) x := by
  unfold midB midF
  split
  · exact ((rows_rowsB (h.cols (by decide) (by decide) (by decide) (by decide))).cols _ _ _ _).trans (back_cols h)
  · exact rows_rowsB h
theorem turnTo_succ (W b : Nat → Nat) (r : Nat) : turnTo W b (r + 1) = addF W (r + 1) (midF (r + 1) (turnTo W b r)) := rfl
theorem backTo_succ (W b : Nat → Nat) (k : Nat) : backTo W b (k + 1) = midB (14 - k) (addF W (14 - k) (backTo W b k)) := rfl
theorem bytes_turnTo {W b : Nat → Nat} (hW : ∀ i, W i < 256) (hb : Bytes16 b) : ∀ r, Bytes16 (turnTo W b r)
  | 0 => hb.add hW 0
  | r + 1 => ((bytes_turnTo hW hb r).midF (r + 1)).add hW (r + 1)
theorem bytes_backTo {W b : Nat → Nat} (hW : ∀ i, W i < 256) (hb : Bytes16 b) : ∀ k, Bytes16 (backTo W b k)
  | 0 => hb
  | k + 1 => ((bytes_backTo hW hb k).add hW (14 - k)).midB (14 - k)
theorem same_backTo {W b c : Nat → Nat} (h : Same16 b c) : ∀ k, Same16 (backTo W b k) (backTo W c k)
  | 0 => h
  | k + 1 => ((same_backTo h k).add W (14 - k)).midB (14 - k)
theorem same_turnTo {W b c : Nat → Nat} (h : Same16 b c) : ∀ k, Same16 (turnTo W b k) (turnTo W c k)
  | 0 => h.add W 0
  | k + 1 => ((same_turnTo h k).midF (k + 1)).add W (k + 1)
theorem bytes_turn {W b : Nat → Nat} (hW : ∀ i, W i < 256) (hb : Bytes16 b) : Bytes16 (turnF W b) := bytes_turnTo hW hb 14
theorem bytes_back {W b : Nat → Nat} (hW : ∀ i, W i < 256) (hb : Bytes16 b) : Bytes16 (backF W b) := (bytes_backTo hW hb 14).add hW 0
theorem same_turn {W b c : Nat → Nat} (h : Same16 b c) : Same16 (turnF W b) (turnF W c) := same_turnTo h 14
theorem same_back {W b c : Nat → Nat} (h : Same16 b c) : Same16 (backF W b) (backF W c) := (same_backTo h 14).add W 0

theorem back_steps {W b : Nat → Nat} (hW : ∀ i, W i < 256) (hb : Bytes16 b) : ∀ k, k ≤ 14 → Same16 (backTo W (turnF W b) k) (turnTo W b (14 - k))
  | 0, _ => Same16.refl _
  | k + 1, hk => by
    have ih := back_steps hW hb k (by omega)
    obtain ⟨r, hr⟩ : ∃ r, 14 - k = r + 1 := ⟨13 - k, by omega⟩
    rw [backTo_succ, hr, show 14 - (k + 1) = r by omega]
    rw [hr, turnTo_succ] at ih
    have h1 := ih.add W (r + 1)
    rw [add_add] at h1
    exact (h1.midB (r + 1)).trans (midB_midF (bytes_turnTo hW hb r) (r + 1))
/-- Turned and turned back a block is as it was. -/
theorem back_turn {W b : Nat → Nat} (hW : ∀ i, W i < 256) (hb : Bytes16 b) : Same16 (backF W (turnF W b)) b := by
  have h := (back_steps hW hb 14 (Nat.le_refl _)).add W 0
  have e : addF W 0 (turnTo W b (14 - 14)) = b := add_add W b 0
  rw [e] at h
  exact h
theorem turn_steps {W b : Nat → Nat} (hW : ∀ i, W i < 256) (hb : Bytes16 b) : ∀ r, r ≤ 14 → Same16 (turnTo W (backF W b) r) (backTo W b (14 - r))
  | 0, _ => by
    have e : turnTo W (backF W b) 0 = backTo W b 14 := add_add W _ 0
    rw [e]; exact Same16.refl _
  | r + 1, hr => by
    have ih := turn_steps hW hb r (by omega)
    rw [turnTo_succ]
    rw [show 14 - r = (13 - r) + 1 by omega, backTo_succ, show 14 - (13 - r) = r + 1 by omega] at ih
    have h1 := (ih.midF (r + 1)).trans (midF_midB ((bytes_backTo hW hb (13 - r)).add hW (r + 1)) (r + 1))
    have h2 := h1.add W (r + 1)
    rw [add_add] at h2
    rw [show 14 - (r + 1) = 13 - r by omega]
    exact h2
/-- .. and the other way round. -/
theorem turn_back {W b : Nat → Nat} (hW : ∀ i, W i < 256) (hb : Bytes16 b) : Same16 (turnF W (backF W b)) b := turn_steps hW hb 14 (Nat.le_refl _)
theorem turn_inj {W b c : Nat → Nat} (hW : ∀ i, W i < 256) (hb : Bytes16 b) (hc : Bytes16 c) (h : Same16 (turnF W b) (turnF W c)) : Same16 b c :=
  (back_turn hW hb).symm.trans ((same_back h).trans (back_turn hW hc))
theorem back_inj {W b c : Nat → Nat} (hW : ∀ i, W i < 256) (hb : Bytes16 b) (hc : Bytes16 c) (h : Same16 (backF W b) (backF W c)) : Same16 b c :=
  (turn_back hW hb).symm.trans ((same_turn h).trans (turn_back hW hc))

/-! ### The key's words, as one row of bytes -/
/-- The word behind i words. -/
def nextW (key : Nat → Nat) (L : List Nat) (i : Nat) : List Nat :=
  if i < 8 then [key (4 * i), key (4 * i + 1), key (4 * i + 2), key (4 * i + 3)]
  else
    let w (k : Nat) : Nat := L.getD (4 * (i - 1) + k) 0
    let v (k : Nat) : Nat := if i % 8 = 0 then w ((k + 1) % 4) else w k
    let u (k : Nat) : Nat := if i % 4 = 0 then gbox (v k) else v k
    let t (k : Nat) : Nat := if i % 8 = 0 ∧ k = 0 then u k ^^^ gpow 2 (i / 8 - 1) else u k
    (List.range 4).map fun k => L.getD (4 * (i - 8) + k) 0 ^^^ t k
def wordsTo (key : Nat → Nat) : Nat → List Nat
  | 0 => []
  | i + 1 => wordsTo key i ++ nextW key (wordsTo key i) i
def wordsOf (key : Nat → Nat) : List Nat := wordsTo key 60
theorem length_nextW (key : Nat → Nat) (L : List Nat) (i : Nat) : (nextW key L i).length = 4 := by
  unfold nextW; split <;> simp
theorem length_wordsTo (key : Nat → Nat) : ∀ i, (wordsTo key i).length = 4 * i
  | 0 => rfl
  | i + 1 => by unfold wordsTo; rw [List.length_append, length_wordsTo key i, length_nextW]; omega

end Go.Proofs.Ytnadgjlmlnhknaa
