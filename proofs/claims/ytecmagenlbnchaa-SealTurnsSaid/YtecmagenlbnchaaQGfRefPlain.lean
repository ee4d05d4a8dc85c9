/-
  AES, plainly: bytes as polynomials, boxes, words, blocks turned and turned back. No condition; no program in sight.
  xts, plainly: masks doubled, stamps' tweaks, sectors turned. No condition; no program in sight.
  The reference's bytes as polynomials, plainly: its products, inverses, powers, boxes are those of the program. No program in sight.
-/
import Derived.KernelRfl
import Derived.NoCompiler
namespace Go.Proofs.Ytecmagenlbnchaa
set_option maxRecDepth 100000

/-! ### Bytes as polynomials -/
def gdbl (a : Nat) : Nat := if 128 ≤ a then (2 * a % 256) ^^^ 27 else 2 * a
def gmulTo : Nat → Nat → Nat → Nat → Nat
  | 0, out, _, _ => out
  | n + 1, out, a, b => gmulTo n (if b % 2 = 1 then out ^^^ a else out) (gdbl a) (b / 2)
def gmul (a b : Nat) : Nat := gmulTo 8 0 a b
def gpowTo : Nat → Nat → Nat → Nat → Nat
  | 0, out, _, _ => out
  | f + 1, out, a, n => if n = 0 then out else gpowTo f (if n % 2 = 1 then gmul out a else out) (gmul a a) (n / 2)
def gpow (a n : Nat) : Nat := gpowTo 8 1 a n
def ginv (a : Nat) : Nat := if a = 0 then 0 else gpow a 254
def rotl8 (b k : Nat) : Nat := (b * 2 ^ k % 256) ||| (b / 2 ^ (8 - k))
def gbox (a : Nat) : Nat := ginv a ^^^ 99 ^^^ rotl8 (ginv a) 1 ^^^ rotl8 (ginv a) 2 ^^^ rotl8 (ginv a) 3 ^^^ rotl8 (ginv a) 4
def unbTo : Nat → List Nat
  | 0 => List.replicate 256 0
  | k + 1 => (unbTo k).set (gbox k) k
def gunb (a : Nat) : Nat := (unbTo 256).getD a 0

theorem xor_lt8 {a b : Nat} (ha : a < 256) (hb : b < 256) : a ^^^ b < 256 := Nat.xor_lt_two_pow (n := 8) ha hb
theorem gdbl_lt {a : Nat} (h : a < 256) : gdbl a < 256 := by
  unfold gdbl
  split
  · exact xor_lt8 (Nat.mod_lt _ (by decide)) (by decide)
  · omega
theorem gmulTo_lt : ∀ n out a b, out < 256 → a < 256 → gmulTo n out a b < 256
  | 0, _, _, _, h, _ => h
  | n + 1, out, a, b, h, ha => by
    unfold gmulTo
    refine gmulTo_lt n _ _ _ ?_ (gdbl_lt ha)
    split
    · exact xor_lt8 h ha
    · exact h
theorem gmul_lt {a : Nat} (b : Nat) (ha : a < 256) : gmul a b < 256 := gmulTo_lt 8 0 a b (by decide) ha
theorem gpowTo_lt : ∀ f out a n, out < 256 → a < 256 → gpowTo f out a n < 256
  | 0, _, _, _, h, _ => h
  | f + 1, out, a, n, h, ha => by
    unfold gpowTo
    split
    · exact h
    · refine gpowTo_lt f _ _ _ ?_ (gmul_lt _ ha)
      split
      · exact gmul_lt _ h
      · exact h
theorem gpow_lt {a : Nat} (n : Nat) (ha : a < 256) : gpow a n < 256 := gpowTo_lt 8 1 a n (by decide) ha
theorem ginv_lt {a : Nat} (ha : a < 256) : ginv a < 256 := by
  unfold ginv
  split
  · decide
  · exact gpow_lt _ ha
theorem rotl8_lt {b k : Nat} (hb : b < 256) : rotl8 b k < 256 :=
  Nat.or_lt_two_pow (n := 8) (Nat.mod_lt _ (by decide)) (Nat.lt_of_le_of_lt (Nat.div_le_self _ _) hb)
theorem gbox_lt {a : Nat} (ha : a < 256) : gbox a < 256 := by
  have h := ginv_lt ha
  unfold gbox
  exact xor_lt8 (xor_lt8 (xor_lt8 (xor_lt8 (xor_lt8 h (by decide)) (rotl8_lt h)) (rotl8_lt h)) (rotl8_lt h)) (rotl8_lt h)

theorem gmulTo_xor : ∀ n o1 o2 f a b, gmulTo n (o1 ^^^ o2) f (a ^^^ b) = gmulTo n o1 f a ^^^ gmulTo n o2 f b
  | 0, _, _, _, _, _ => rfl
  | n + 1, o1, o2, f, a, b => by
    have e2 : (a ^^^ b) / 2 = a / 2 ^^^ b / 2 := Nat.xor_div_two
    have em : (a ^^^ b) % 2 = (a % 2 + b % 2) % 2 := by
      have h := @Nat.xor_mod_two_pow a b 1
      rw [Nat.pow_one] at h
      rw [h]
      rcases Nat.mod_two_eq_zero_or_one a with ha | ha <;> rcases Nat.mod_two_eq_zero_or_one b with hb | hb <;> simp [ha, hb]
    unfold gmulTo
    rw [e2, ← gmulTo_xor n]
    congr 1
    rw [em]
    have ha := Nat.mod_two_eq_zero_or_one a
    have hb := Nat.mod_two_eq_zero_or_one b
    rcases ha with ha | ha <;> rcases hb with hb | hb <;> simp [ha, hb]
    · rw [Nat.xor_assoc]
    · rw [Nat.xor_assoc, Nat.xor_comm o2 f, Nat.xor_assoc]
    · rw [Nat.xor_assoc, ← Nat.xor_assoc f, Nat.xor_comm f, Nat.xor_assoc o2, Nat.xor_self, Nat.xor_zero]
theorem gmul_xor (f a b : Nat) : gmul f (a ^^^ b) = gmul f a ^^^ gmul f b := gmulTo_xor 8 0 0 f a b

theorem unb_box : ∀ a, a < 256 → gunb (gbox a) = a := by
  have h : (List.range 256).all (fun a => (unbTo 256).getD (gbox a) 0 == a) = true := by decide +kernel
  intro a ha
  have := List.all_eq_true.1 h a (List.mem_range.2 ha)
  simpa [gunb] using this
theorem unb_lt_box : ∀ a, a < 256 → gunb a < 256 ∧ gbox (gunb a) = a := by
  have h : (List.range 256).all (fun a => decide ((unbTo 256).getD a 0 < 256) && gbox ((unbTo 256).getD a 0) == a) = true := by decide +kernel
  intro a ha
  have := List.all_eq_true.1 h a (List.mem_range.2 ha)
  simpa [gunb] using this

/-- What holds of each byte, by trying all. -/
theorem of_all {p : Nat → Bool} (h : (List.range 256).all p = true) {a : Nat} (ha : a < 256) : p a = true := List.all_eq_true.1 h a (List.mem_range.2 ha)

theorem mixA {a : Nat} (ha : a < 256) : gmul 14 (gmul 2 a) ^^^ gmul 11 (gmul 1 a) ^^^ gmul 13 (gmul 1 a) ^^^ gmul 9 (gmul 3 a) = a :=
  eq_of_beq (of_all (p := fun a => gmul 14 (gmul 2 a) ^^^ gmul 11 (gmul 1 a) ^^^ gmul 13 (gmul 1 a) ^^^ gmul 9 (gmul 3 a) == a) (by decide +kernel) ha)
theorem mixB {a : Nat} (ha : a < 256) : gmul 14 (gmul 3 a) ^^^ gmul 11 (gmul 2 a) ^^^ gmul 13 (gmul 1 a) ^^^ gmul 9 (gmul 1 a) = 0 :=
  eq_of_beq (of_all (p := fun a => gmul 14 (gmul 3 a) ^^^ gmul 11 (gmul 2 a) ^^^ gmul 13 (gmul 1 a) ^^^ gmul 9 (gmul 1 a) == 0) (by decide +kernel) ha)
theorem mixC {a : Nat} (ha : a < 256) : gmul 14 (gmul 1 a) ^^^ gmul 11 (gmul 3 a) ^^^ gmul 13 (gmul 2 a) ^^^ gmul 9 (gmul 1 a) = 0 :=
  eq_of_beq (of_all (p := fun a => gmul 14 (gmul 1 a) ^^^ gmul 11 (gmul 3 a) ^^^ gmul 13 (gmul 2 a) ^^^ gmul 9 (gmul 1 a) == 0) (by decide +kernel) ha)
theorem mixD {a : Nat} (ha : a < 256) : gmul 14 (gmul 1 a) ^^^ gmul 11 (gmul 1 a) ^^^ gmul 13 (gmul 3 a) ^^^ gmul 9 (gmul 2 a) = 0 :=
  eq_of_beq (of_all (p := fun a => gmul 14 (gmul 1 a) ^^^ gmul 11 (gmul 1 a) ^^^ gmul 13 (gmul 3 a) ^^^ gmul 9 (gmul 2 a) == 0) (by decide +kernel) ha)
theorem nixA {a : Nat} (ha : a < 256) : gmul 2 (gmul 14 a) ^^^ gmul 3 (gmul 9 a) ^^^ gmul 1 (gmul 13 a) ^^^ gmul 1 (gmul 11 a) = a :=
  eq_of_beq (of_all (p := fun a => gmul 2 (gmul 14 a) ^^^ gmul 3 (gmul 9 a) ^^^ gmul 1 (gmul 13 a) ^^^ gmul 1 (gmul 11 a) == a) (by decide +kernel) ha)
theorem nixB {a : Nat} (ha : a < 256) : gmul 2 (gmul 11 a) ^^^ gmul 3 (gmul 14 a) ^^^ gmul 1 (gmul 9 a) ^^^ gmul 1 (gmul 13 a) = 0 :=
  eq_of_beq (of_all (p := fun a => gmul 2 (gmul 11 a) ^^^ gmul 3 (gmul 14 a) ^^^ gmul 1 (gmul 9 a) ^^^ gmul 1 (gmul 13 a) == 0) (by decide +kernel) ha)
theorem nixC {a : Nat} (ha : a < 256) : gmul 2 (gmul 13 a) ^^^ gmul 3 (gmul 11 a) ^^^ gmul 1 (gmul 14 a) ^^^ gmul 1 (gmul 9 a) = 0 :=
  eq_of_beq (of_all (p := fun a => gmul 2 (gmul 13 a) ^^^ gmul 3 (gmul 11 a) ^^^ gmul 1 (gmul 14 a) ^^^ gmul 1 (gmul 9 a) == 0) (by decide +kernel) ha)
theorem nixD {a : Nat} (ha : a < 256) : gmul 2 (gmul 9 a) ^^^ gmul 3 (gmul 13 a) ^^^ gmul 1 (gmul 11 a) ^^^ gmul 1 (gmul 14 a) = 0 :=
  eq_of_beq (of_all (p := fun a => gmul 2 (gmul 9 a) ^^^ gmul 3 (gmul 13 a) ^^^ gmul 1 (gmul 11 a) ^^^ gmul 1 (gmul 14 a) == 0) (by decide +kernel) ha)

/-! ### Blocks of sixteen bytes -/
def addF (W : Nat → Nat) (r : Nat) (b : Nat → Nat) : Nat → Nat := fun i => b i ^^^ W (16 * r + i)
def rowsF (T : Nat → Nat) (b : Nat → Nat) : Nat → Nat := fun i => T (b ((i + 4 * (i % 4)) % 16))
def rowsB (T : Nat → Nat) (b : Nat → Nat) : Nat → Nat := fun i => T (b ((i + 12 * (i % 4)) % 16))
def colsF (f0 f1 f2 f3 : Nat) (b : Nat → Nat) : Nat → Nat := fun i =>
  gmul f0 (b (4 * (i / 4) + (i + 0) % 4)) ^^^ gmul f1 (b (4 * (i / 4) + (i + 1) % 4)) ^^^ gmul f2 (b (4 * (i / 4) + (i + 2) % 4)) ^^^ gmul f3 (b (4 * (i / 4) + (i + 3) % 4))
def turnTo (W b : Nat → Nat) : Nat → Nat → Nat
  | 0 => addF W 0 b
  | r + 1 => addF W (r + 1) (if r + 1 < 14 then colsF 2 3 1 1 (rowsF gbox (turnTo W b r)) else rowsF gbox (turnTo W b r))
def turnF (W b : Nat → Nat) : Nat → Nat := turnTo W b 14
def backTo (W b : Nat → Nat) : Nat → Nat → Nat
  | 0 => b
  | k + 1 => rowsB gunb (if 14 - k < 14 then colsF 14 11 13 9 (addF W (14 - k) (backTo W b k)) else addF W (14 - k) (backTo W b k))
def backF (W b : Nat → Nat) : Nat → Nat := addF W 0 (backTo W b 14)

/-- Two blocks are one. -/
def Same16 (x y : Nat → Nat) : Prop := ∀ i, i < 16 → x i = y i
/-- All are bytes. -/
def Bytes16 (x : Nat → Nat) : Prop := ∀ i, i < 16 → x i < 256
theorem Same16.refl (x : Nat → Nat) : Same16 x x := fun _ _ => rfl
theorem Same16.trans {x y z : Nat → Nat} (h : Same16 x y) (k : Same16 y z) : Same16 x z := fun i hi => (h i hi).trans (k i hi)
theorem Same16.symm {x y : Nat → Nat} (h : Same16 x y) : Same16 y x := fun i hi => (h i hi).symm
theorem Same16.add {x y : Nat → Nat} (h : Same16 x y) (W : Nat → Nat) (r : Nat) : Same16 (addF W r x) (addF W r y) := fun i hi => by unfold addF; rw [h i hi]
theorem Same16.rows {x y : Nat → Nat} (h : Same16 x y) (T : Nat → Nat) : Same16 (rowsF T x) (rowsF T y) := fun i _ => by unfold rowsF; rw [h _ (Nat.mod_lt _ (by decide))]
theorem Same16.rowsB {x y : Nat → Nat} (h : Same16 x y) (T : Nat → Nat) : Same16 (rowsB T x) (rowsB T y) := fun i _ => by unfold Proofs.Ytecmagenlbnchaa.rowsB; rw [h _ (Nat.mod_lt _ (by decide))]
theorem Same16.cols {x y : Nat → Nat} (h : Same16 x y) (a b c d : Nat) : Same16 (colsF a b c d x) (colsF a b c d y) := fun i hi => by
  unfold colsF; rw [h _ (by omega), h _ (by omega), h _ (by omega), h _ (by omega)]
theorem Bytes16.add {x : Nat → Nat} (h : Bytes16 x) {W : Nat → Nat} (hW : ∀ i, W i < 256) (r : Nat) : Bytes16 (addF W r x) := fun i hi => xor_lt8 (h i hi) (hW _)
theorem Bytes16.rows {x : Nat → Nat} (h : Bytes16 x) : Bytes16 (rowsF gbox x) := fun i _ => gbox_lt (h _ (Nat.mod_lt _ (by decide)))
theorem Bytes16.rowsB {x : Nat → Nat} (h : Bytes16 x) : Bytes16 (rowsB gunb x) := fun i _ => (unb_lt_box _ (h _ (Nat.mod_lt _ (by decide)))).1
theorem Bytes16.cols {x : Nat → Nat} (_ : Bytes16 x) {a b c d : Nat} (ha : a < 256) (hb : b < 256) (hc : c < 256) (hd : d < 256) : Bytes16 (colsF a b c d x) := fun _ _ =>
  xor_lt8 (xor_lt8 (xor_lt8 (gmul_lt _ ha) (gmul_lt _ hb)) (gmul_lt _ hc)) (gmul_lt _ hd)

theorem add_add (W x : Nat → Nat) (r : Nat) : addF W r (addF W r x) = x := by
  funext i
  unfold addF
  rw [Nat.xor_assoc, Nat.xor_self, Nat.xor_zero]
theorem rowsB_rows {x : Nat → Nat} (h : Bytes16 x) : Same16 (rowsB gunb (rowsF gbox x)) x := fun i hi => by
  unfold rowsB rowsF
  rw [unb_box _ (h _ (Nat.mod_lt _ (by decide)))]
  congr 1
  omega
theorem rows_rowsB {x : Nat → Nat} (h : Bytes16 x) : Same16 (rowsF gbox (rowsB gunb x)) x := fun i hi => by
  unfold rowsB rowsF
  rw [(unb_lt_box _ (h _ (Nat.mod_lt _ (by decide)))).2]
  congr 1
  omega
theorem xor_group (a0 a1 a2 a3 b0 b1 b2 b3 c0 c1 c2 c3 d0 d1 d2 d3 : Nat) :
    (a0 ^^^ b0 ^^^ c0 ^^^ d0) ^^^ (b1 ^^^ c1 ^^^ d1 ^^^ a1) ^^^ (c2 ^^^ d2 ^^^ a2 ^^^ b2) ^^^ (d3 ^^^ a3 ^^^ b3 ^^^ c3) =
      (a0 ^^^ a1 ^^^ a2 ^^^ a3) ^^^ (b0 ^^^ b1 ^^^ b2 ^^^ b3) ^^^ (c0 ^^^ c1 ^^^ c2 ^^^ c3) ^^^ (d0 ^^^ d1 ^^^ d2 ^^^ d3) := by
  ac_rfl

theorem cols_back {x : Nat → Nat} (h : Bytes16 x) : Same16 (colsF 14 11 13 9 (colsF 2 3 1 1 x)) x := fun i hi => by
  have h0 := h (4 * (i / 4) + (i + 0) % 4) (by omega)
  have h1 := h (4 * (i / 4) + (i + 1) % 4) (by omega)
  have h2 := h (4 * (i / 4) + (i + 2) % 4) (by omega)
  have h3 := h (4 * (i / 4) + (i + 3) % 4) (by omega)
  have col : ∀ k, k < 4 → colsF 2 3 1 1 x (4 * (i / 4) + (i + k) % 4) = gmul 2 (x (4 * (i / 4) + (i + k) % 4)) ^^^ gmul 3 (x (4 * (i / 4) + (i + (k + 1) % 4) % 4)) ^^^ gmul 1 (x (4 * (i / 4) + (i + (k + 2) % 4) % 4)) ^^^ gmul 1 (x (4 * (i / 4) + (i + (k + 3) % 4) % 4)) := fun k hk => by
    unfold colsF
    rw [show (4 * (i / 4) + (i + k) % 4) / 4 = i / 4 by omega, show (4 * (i / 4) + (i + k) % 4 + 0) % 4 = (i + k) % 4 by omega, show (4 * (i / 4) + (i + k) % 4 + 1) % 4 = (i + (k + 1) % 4) % 4 by omega,
      show (4 * (i / 4) + (i + k) % 4 + 2) % 4 = (i + (k + 2) % 4) % 4 by omega, show (4 * (i / 4) + (i + k) % 4 + 3) % 4 = (i + (k + 3) % 4) % 4 by omega]
  have e : colsF 14 11 13 9 (colsF 2 3 1 1 x) i = gmul 14 (colsF 2 3 1 1 x (4 * (i / 4) + (i + 0) % 4)) ^^^ gmul 11 (colsF 2 3 1 1 x (4 * (i / 4) + (i + 1) % 4)) ^^^ gmul 13 (colsF 2 3 1 1 x (4 * (i / 4) + (i + 2) % 4)) ^^^ gmul 9 (colsF 2 3 1 1 x (4 * (i / 4) + (i + 3) % 4)) := rfl
  rw [e, col 0 (by omega), col 1 (by omega), col 2 (by omega), col 3 (by omega)]
  have ei : x i = x (4 * (i / 4) + (i + 0) % 4) := by congr 1; omega
  rw [ei]
  simp only [Nat.reduceAdd, Nat.reduceMod] at *
  generalize x (4 * (i / 4) + (i + 0) % 4) = a at *
  generalize x (4 * (i / 4) + (i + 1) % 4) = b at *
  generalize x (4 * (i / 4) + (i + 2) % 4) = c at *
  generalize x (4 * (i / 4) + (i + 3) % 4) = d at *
  simp only [gmul_xor]
  have g := xor_group (gmul 14 (gmul 2 a)) (gmul 11 (gmul 1 a)) (gmul 13 (gmul 1 a)) (gmul 9 (gmul 3 a)) (gmul 14 (gmul 3 b)) (gmul 11 (gmul 2 b)) (gmul 13 (gmul 1 b)) (gmul 9 (gmul 1 b)) (gmul 14 (gmul 1 c)) (gmul 11 (gmul 3 c)) (gmul 13 (gmul 2 c)) (gmul 9 (gmul 1 c)) (gmul 14 (gmul 1 d)) (gmul 11 (gmul 1 d)) (gmul 13 (gmul 3 d)) (gmul 9 (gmul 2 d))
  rw [mixA h0, mixB h1, mixC h2, mixD h3] at g
  simp only [Nat.xor_zero] at g
  exact g
theorem back_cols {x : Nat → Nat} (h : Bytes16 x) : Same16 (colsF 2 3 1 1 (colsF 14 11 13 9 x)) x := fun i hi => by
  have h0 := h (4 * (i / 4) + (i + 0) % 4) (by omega)
  have h1 := h (4 * (i / 4) + (i + 1) % 4) (by omega)
  have h2 := h (4 * (i / 4) + (i + 2) % 4) (by omega)
  have h3 := h (4 * (i / 4) + (i + 3) % 4) (by omega)
  have col : ∀ k, k < 4 → colsF 14 11 13 9 x (4 * (i / 4) + (i + k) % 4) = gmul 14 (x (4 * (i / 4) + (i + k) % 4)) ^^^ gmul 11 (x (4 * (i / 4) + (i + (k + 1) % 4) % 4)) ^^^ gmul 13 (x (4 * (i / 4) + (i + (k + 2) % 4) % 4)) ^^^ gmul 9 (x (4 * (i / 4) + (i + (k + 3) % 4) % 4)) := fun k hk => by
    unfold colsF
    rw [show (4 * (i / 4) + (i + k) % 4) / 4 = i / 4 by omega, show (4 * (i / 4) + (i + k) % 4 + 0) % 4 = (i + k) % 4 by omega, show (4 * (i / 4) + (i + k) % 4 + 1) % 4 = (i + (k + 1) % 4) % 4 by omega,
      show (4 * (i / 4) + (i + k) % 4 + 2) % 4 = (i + (k + 2) % 4) % 4 by omega, show (4 * (i / 4) + (i + k) % 4 + 3) % 4 = (i + (k + 3) % 4) % 4 by omega]
  have e : colsF 2 3 1 1 (colsF 14 11 13 9 x) i = gmul 2 (colsF 14 11 13 9 x (4 * (i / 4) + (i + 0) % 4)) ^^^ gmul 3 (colsF 14 11 13 9 x (4 * (i / 4) + (i + 1) % 4)) ^^^ gmul 1 (colsF 14 11 13 9 x (4 * (i / 4) + (i + 2) % 4)) ^^^ gmul 1 (colsF 14 11 13 9 x (4 * (i / 4) + (i + 3) % 4)) := rfl
  rw [e, col 0 (by omega), col 1 (by omega), col 2 (by omega), col 3 (by omega)]
  have ei : x i = x (4 * (i / 4) + (i + 0) % 4) := by congr 1; omega
  rw [ei]
  simp only [Nat.reduceAdd, Nat.reduceMod] at *
  generalize x (4 * (i / 4) + (i + 0) % 4) = a at *
  generalize x (4 * (i / 4) + (i + 1) % 4) = b at *
  generalize x (4 * (i / 4) + (i + 2) % 4) = c at *
  generalize x (4 * (i / 4) + (i + 3) % 4) = d at *
  simp only [gmul_xor]
  have g := xor_group (gmul 2 (gmul 14 a)) (gmul 3 (gmul 9 a)) (gmul 1 (gmul 13 a)) (gmul 1 (gmul 11 a)) (gmul 2 (gmul 11 b)) (gmul 3 (gmul 14 b)) (gmul 1 (gmul 9 b)) (gmul 1 (gmul 13 b)) (gmul 2 (gmul 13 c)) (gmul 3 (gmul 11 c)) (gmul 1 (gmul 14 c)) (gmul 1 (gmul 9 c)) (gmul 2 (gmul 9 d)) (gmul 3 (gmul 13 d)) (gmul 1 (gmul 11 d)) (gmul 1 (gmul 14 d))
  rw [nixA h0, nixB h1, nixC h2, nixD h3] at g
  simp only [Nat.xor_zero] at g
  exact g

/-- A round between two words, forth. -/
def midF (r : Nat) (x : Nat → Nat) : Nat → Nat := if r < 14 then colsF 2 3 1 1 (rowsF gbox x) else rowsF gbox x
def midB (r : Nat) (x : Nat → Nat) : Nat → Nat := rowsB gunb (if r < 14 then colsF 14 11 13 9 x else x)
theorem Same16.midB {x y : Nat → Nat} (h : Same16 x y) (r : Nat) : Same16 (midB r x) (midB r y) := by
  unfold Go.Proofs.Ytecmagenlbnchaa.midB
  split
  · exact (h.cols _ _ _ _).rowsB _
  · exact h.rowsB _
theorem Same16.midF {x y : Nat → Nat} (h : Same16 x y) (r : Nat) : Same16 (midF r x) (midF r y) := by
  unfold Go.Proofs.Ytecmagenlbnchaa.midF
  split
  · exact (h.rows _).cols _ _ _ _
  · exact h.rows _
theorem midB_midF {x : Nat → Nat} (h : Bytes16 x) (r : Nat) : Same16 (midB r (midF r x)) x := by
  unfold midB midF
  split
  · exact ((cols_back h.rows).rowsB _).trans (rowsB_rows h)
  · exact rowsB_rows h
theorem Bytes16.midF {x : Nat → Nat} (h : Bytes16 x) (r : Nat) : Bytes16 (midF r x) := by
  unfold Go.Proofs.Ytecmagenlbnchaa.midF
  split
  · exact h.rows.cols (by decide) (by decide) (by decide) (by decide)
  · exact h.rows
theorem Bytes16.midB {x : Nat → Nat} (h : Bytes16 x) (r : Nat) : Bytes16 (midB r x) := by
  unfold Go.Proofs.Ytecmagenlbnchaa.midB
  split
  · exact (h.cols (by decide) (by decide) (by decide) (by decide)).rowsB
  · exact h.rowsB
theorem midF_midB {x : Nat → Nat} (h : Bytes16 x) (r : Nat) : Same16 (midF r (midB r x)) x := by
  unfold midB midF
  split
  · exact ((rows_rowsB (h.cols (by decide) (by decide) (by decide) (by decide))).cols _ _ _ _).trans (back_cols h)
  · exact rows_rowsB h
theorem turnTo_succ (W b : Nat → Nat) (r : Nat) : turnTo W b (r + 1) = addF W (r + 1) (midF (r + 1) (turnTo W b r)) := rfl
theorem backTo_succ (W b : Nat → Nat) (k : Nat) : backTo W b (k + 1) = midB (14 - k) (addF W (14 - k) (backTo W b k)) := rfl
theorem bytes_turnTo {W b : Nat → Nat} (hW : ∀ i, W i < 256) (hb : Bytes16 b) : ∀ r, Bytes16 (turnTo W b r)
  | 0 => hb.add hW 0
  | r + 1 => ((bytes_turnTo hW hb r).midF (r + 1)).add hW (r + 1)
theorem bytes_backTo {W b : Nat → Nat} (hW : ∀ i, W i < 256) (hb : Bytes16 b) : ∀ k, Bytes16 (backTo W b k)
  | 0 => hb
  | k + 1 => ((bytes_backTo hW hb k).add hW (14 - k)).midB (14 - k)
theorem same_backTo {W b c : Nat → Nat} (h : Same16 b c) : ∀ k, Same16 (backTo W b k) (backTo W c k)
  | 0 => h
  | k + 1 => ((same_backTo h k).add W (14 - k)).midB (14 - k)
theorem same_turnTo {W b c : Nat → Nat} (h : Same16 b c) : ∀ k, Same16 (turnTo W b k) (turnTo W c k)
  | 0 => h.add W 0
  | k + 1 => ((same_turnTo h k).midF (k + 1)).add W (k + 1)
theorem bytes_turn {W b : Nat → Nat} (hW : ∀ i, W i < 256) (hb : Bytes16 b) : Bytes16 (turnF W b) := bytes_turnTo hW hb 14
theorem bytes_back {W b : Nat → Nat} (hW : ∀ i, W i < 256) (hb : Bytes16 b) : Bytes16 (backF W b) := (bytes_backTo hW hb 14).add hW 0
theorem same_turn {W b c : Nat → Nat} (h : Same16 b c) : Same16 (turnF W b) (turnF W c) := same_turnTo h 14
theorem same_back {W b c : Nat → Nat} (h : Same16 b c) : Same16 (backF W b) (backF W c) := (same_backTo h 14).add W 0

theorem back_steps {W b : Nat → Nat} (hW : ∀ i, W i < 256) (hb : Bytes16 b) : ∀ k, k ≤ 14 → Same16 (backTo W (turnF W b) k) (turnTo W b (14 - k))
  | 0, _ => Same16.refl _
  | k + 1, hk => by
    have ih := back_steps hW hb k (by omega)
    obtain ⟨r, hr⟩ : ∃ r, 14 - k = r + 1 := ⟨13 - k, by omega⟩
    rw [backTo_succ, hr, show 14 - (k + 1) = r by omega]
    rw [hr, turnTo_succ] at ih
    have h1 := ih.add W (r + 1)
    rw [add_add] at h1
    exact (h1.midB (r + 1)).trans (midB_midF (bytes_turnTo hW hb r) (r + 1))
/-- Turned and turned back a block is as it was. -/
theorem back_turn {W b : Nat → Nat} (hW : ∀ i, W i < 256) (hb : Bytes16 b) : Same16 (backF W (turnF W b)) b := by
  have h := (back_steps hW hb 14 (Nat.le_refl _)).add W 0
  have e : addF W 0 (turnTo W b (14 - 14)) = b := add_add W b 0
  rw [e] at h
  exact h
theorem turn_steps {W b : Nat → Nat} (hW : ∀ i, W i < 256) (hb : Bytes16 b) : ∀ r, r ≤ 14 → Same16 (turnTo W (backF W b) r) (backTo W b (14 - r))
  | 0, _ => by
    have e : turnTo W (backF W b) 0 = backTo W b 14 := add_add W _ 0
    rw [e]; exact Same16.refl _
  | r + 1, hr => by
    have ih := turn_steps hW hb r (by omega)
    rw [turnTo_succ]
    rw [show 14 - r = (13 - r) + 1 by omega, backTo_succ, show 14 - (13 - r) = r + 1 by omega] at ih
    have h1 := (ih.midF (r + 1)).trans (midF_midB ((bytes_backTo hW hb (13 - r)).add hW (r + 1)) (r + 1))
    have h2 := h1.add W (r + 1)
    rw [add_add] at h2
    rw [show 14 - (r + 1) = 13 - r by omega]
    exact h2
/-- .. and the other way round. -/
theorem turn_back {W b : Nat → Nat} (hW : ∀ i, W i < 256) (hb : Bytes16 b) : Same16 (turnF W (backF W b)) b := turn_steps hW hb 14 (Nat.le_refl _)
theorem turn_inj {W b c : Nat → Nat} (hW : ∀ i, W i < 256) (hb : Bytes16 b) (hc : Bytes16 c) (h : Same16 (turnF W b) (turnF W c)) : Same16 b c :=
  (back_turn hW hb).symm.trans ((same_back h).trans (back_turn hW hc))
theorem back_inj {W b c : Nat → Nat} (hW : ∀ i, W i < 256) (hb : Bytes16 b) (hc : Bytes16 c) (h : Same16 (backF W b) (backF W c)) : Same16 b c :=
  (turn_back hW hb).symm.trans ((same_turn h).trans (turn_back hW hc))

/-! ### The key's words, as one row of bytes -/
/-- The word behind i words. -/
def nextW (key : Nat → Nat) (L : List Nat) (i : Nat) : List Nat :=
  if i < 8 then [key (4 * i), key (4 * i + 1), key (4 * i + 2), key (4 * i + 3)]
  else
    let w (k : Nat) : Nat := L.getD (4 * (i - 1) + k) 0
    let v (k : Nat) : Nat := if i % 8 = 0 then w ((k + 1) % 4) else w k
    let u (k : Nat) : Nat := if i % 4 = 0 then gbox (v k) else v k
    let t (k : Nat) : Nat := if i % 8 = 0 ∧ k = 0 then u k ^^^ gpow 2 (i / 8 - 1) else u k
    (List.range 4).map fun k => L.getD (4 * (i - 8) + k) 0 ^^^ t k
def wordsTo (key : Nat → Nat) : Nat → List Nat
  | 0 => []
  | i + 1 => wordsTo key i ++ nextW key (wordsTo key i) i
def wordsOf (key : Nat → Nat) : List Nat := wordsTo key 60
theorem length_nextW (key : Nat → Nat) (L : List Nat) (i : Nat) : (nextW key L i).length = 4 := by
  unfold nextW; split <;> simp
theorem length_wordsTo (key : Nat → Nat) : ∀ i, (wordsTo key i).length = 4 * i
  | 0 => rfl
  | i + 1 => by unfold wordsTo; rw [List.length_append, length_wordsTo key i, length_nextW]; omega

end Go.Proofs.Ytecmagenlbnchaa
namespace Go.Proofs.Ytecmagenlbnchaa
set_option maxRecDepth 100000

/-- What comes over from the byte ahead. -/
def cry (m : Nat → Nat) (k : Nat) : Nat := if k = 0 then 0 else m (k - 1) / 128
def dbl0 (m : Nat → Nat) (i : Nat) : Nat := 2 * m i % 256 ||| cry m i
/-- A mask doubled. -/
def dblM (m : Nat → Nat) (i : Nat) : Nat := if i = 0 ∧ m 15 / 128 = 1 then dbl0 m 0 ^^^ 135 else dbl0 m i
theorem cry_lt {m : Nat → Nat} (hm : Bytes16 m) {k : Nat} (hk : k ≤ 16) : cry m k < 2 := by
  unfold cry
  split
  · decide
  · have := hm (k - 1) (by omega); omega
theorem dbl0_lt {m : Nat → Nat} (hm : Bytes16 m) : Bytes16 (dbl0 m) := fun i hi =>
  Nat.or_lt_two_pow (n := 8) (Nat.mod_lt _ (by decide)) (Nat.lt_of_lt_of_le (cry_lt hm (by omega)) (by decide))
theorem dblM_lt {m : Nat → Nat} (hm : Bytes16 m) : Bytes16 (dblM m) := fun i hi => by
  unfold dblM
  split
  · exact xor_lt8 (dbl0_lt hm 0 (by decide)) (by decide)
  · exact dbl0_lt hm i hi
theorem same_cry {m n : Nat → Nat} (h : Same16 m n) {k : Nat} (hk : k ≤ 16) : cry m k = cry n k := by
  unfold cry
  split
  · rfl
  · rw [h _ (by omega)]
theorem same_dblM {m n : Nat → Nat} (h : Same16 m n) : Same16 (dblM m) (dblM n) := fun i hi => by
  have e0 : cry m i = cry n i := same_cry h (by omega)
  have e1 : cry m 0 = cry n 0 := rfl
  unfold dblM dbl0
  rw [h 15 (by decide), h i hi, h 0 (by decide), e0, e1]

theorem or_xor {a c : Nat} (ha : a < 256) (hc : c < 2) : 2 * a % 256 ||| c = 2 * a % 256 ^^^ c := by
  have h0 := eq_of_beq (of_all (p := fun a => (2 * a % 256 ||| 0) == (2 * a % 256 ^^^ 0)) (by decide +kernel) ha)
  have h1 := eq_of_beq (of_all (p := fun a => (2 * a % 256 ||| 1) == (2 * a % 256 ^^^ 1)) (by decide +kernel) ha)
  rcases (show c = 0 ∨ c = 1 by omega) with rfl | rfl
  · exact h0
  · exact h1
/-- The same, by xor alone. -/
theorem dblM_xor_form {m : Nat → Nat} (hm : Bytes16 m) {i : Nat} (hi : i < 16) : dblM m i = (2 * m i % 256) ^^^ cry m i ^^^ (if i = 0 then 135 * (m 15 / 128) else 0) := by
  have h15 := hm 15 (by decide)
  unfold dblM dbl0
  rw [or_xor (hm i hi) (cry_lt hm (by omega)), or_xor (hm 0 (by decide)) (cry_lt hm (Nat.zero_le _))]
  by_cases h0 : i = 0
  · subst h0
    by_cases h1 : m 15 / 128 = 1
    · rw [if_pos ⟨rfl, h1⟩, if_pos rfl, h1]
    · rw [if_neg (fun h => h1 h.2), if_pos rfl, show m 15 / 128 = 0 by omega]; simp
  · rw [if_neg (fun h => h0 h.1), if_neg h0, Nat.xor_zero]
theorem xor_dbl (a b : Nat) : 2 * (a ^^^ b) % 256 = (2 * a % 256) ^^^ (2 * b % 256) := by
  have e : 2 * (a ^^^ b) = 2 * a ^^^ 2 * b := by
    rw [Nat.mul_comm 2, Nat.mul_comm 2, Nat.mul_comm 2, ← Nat.pow_one 2, ← Nat.shiftLeft_eq, ← Nat.shiftLeft_eq, ← Nat.shiftLeft_eq, Nat.shiftLeft_xor_distrib]
  rw [e]
  exact @Nat.xor_mod_two_pow _ _ 8
theorem xor_hi (a b : Nat) : (a ^^^ b) / 128 = (a / 128) ^^^ (b / 128) := by
  rw [show (128 : Nat) = 2 ^ 7 from rfl, ← Nat.shiftRight_eq_div_pow, ← Nat.shiftRight_eq_div_pow, ← Nat.shiftRight_eq_div_pow, Nat.shiftRight_xor_distrib]
theorem bit_mul {a b : Nat} (ha : a < 2) (hb : b < 2) : 135 * (a ^^^ b) = (135 * a) ^^^ (135 * b) := by
  rcases (show a = 0 ∨ a = 1 by omega) with rfl | rfl <;> rcases (show b = 0 ∨ b = 1 by omega) with rfl | rfl <;> decide
theorem xor6 (a b c d e f : Nat) : (a ^^^ b) ^^^ (c ^^^ d) ^^^ (e ^^^ f) = (a ^^^ c ^^^ e) ^^^ (b ^^^ d ^^^ f) := by ac_rfl
/-- A sum is doubled as its parts. -/
theorem dblM_xor {m n : Nat → Nat} (hm : Bytes16 m) (hn : Bytes16 n) : Same16 (dblM (fun i => m i ^^^ n i)) (fun i => dblM m i ^^^ dblM n i) := fun i hi => by
  have hb : Bytes16 (fun i => m i ^^^ n i) := fun i hi => xor_lt8 (hm i hi) (hn i hi)
  have hm15 := hm 15 (by decide)
  have hn15 := hn 15 (by decide)
  show dblM (fun i => m i ^^^ n i) i = dblM m i ^^^ dblM n i
  rw [dblM_xor_form hb hi, dblM_xor_form hm hi, dblM_xor_form hn hi, ← xor6]
  show (2 * (m i ^^^ n i) % 256) ^^^ _ ^^^ (if i = 0 then 135 * ((m 15 ^^^ n 15) / 128) else 0) = _
  rw [xor_dbl, xor_hi, bit_mul (by omega) (by omega)]
  congr 1
  · congr 1
    unfold cry
    split
    · rfl
    · exact xor_hi _ _
  · split <;> rfl
theorem even_bit {x c : Nat} (hc : c < 2) (h : (2 * x % 256) ^^^ c = 0) : 2 * x % 256 = 0 ∧ c = 0 := by
  have e : 2 * x % 256 = c := by
    have h2 : ((2 * x % 256) ^^^ c) ^^^ c = 0 ^^^ c := by rw [h]
    rwa [Nat.xor_assoc, Nat.xor_self, Nat.xor_zero, Nat.zero_xor] at h2
  omega
theorem dblM_zero {m : Nat → Nat} (hm : Bytes16 m) (h : ∀ i, i < 16 → dblM m i = 0) : ∀ i, i < 16 → m i = 0 := by
  have key : ∀ i, i < 16 → i ≠ 0 → 2 * m i % 256 = 0 ∧ m (i - 1) / 128 = 0 := fun i hi h0 => by
    have e := h i hi
    rw [dblM_xor_form hm hi, if_neg h0, Nat.xor_zero] at e
    have := even_bit (cry_lt hm (by omega)) e
    unfold cry at this
    rw [if_neg h0] at this
    exact this
  have e0 := h 0 (by decide)
  rw [dblM_xor_form hm (by decide), if_pos rfl, show cry m 0 = 0 from rfl, Nat.xor_zero] at e0
  have h15 := hm 15 (by decide)
  have z15 : m 15 / 128 = 0 := by
    rcases (show m 15 / 128 = 0 ∨ m 15 / 128 = 1 by omega) with z | z
    · exact z
    · rw [z] at e0
      have e : 2 * m 0 % 256 = 135 := by
        have h2 : ((2 * m 0 % 256) ^^^ (135 * 1)) ^^^ 135 = 0 ^^^ 135 := by rw [e0]
        rwa [Nat.mul_one, Nat.xor_assoc, Nat.xor_self, Nat.xor_zero, Nat.zero_xor] at h2
      omega
  rw [z15, Nat.mul_zero, Nat.xor_zero] at e0
  intro i hi
  have hb := hm i hi
  have top : m i / 128 = 0 := by
    rcases (show i = 15 ∨ i + 1 < 16 by omega) with rfl | h1
    · exact z15
    · have := (key (i + 1) h1 (by omega)).2
      simpa using this
  have low : 2 * m i % 256 = 0 := by
    rcases Nat.eq_zero_or_pos i with rfl | h1
    · exact e0
    · exact (key i hi (by omega)).1
  omega
theorem xor_zero_iff {a b : Nat} : a ^^^ b = 0 ↔ a = b := by
  constructor
  · intro h
    have h2 : (a ^^^ b) ^^^ b = 0 ^^^ b := by rw [h]
    rwa [Nat.xor_assoc, Nat.xor_self, Nat.xor_zero, Nat.zero_xor] at h2
  · rintro rfl; exact Nat.xor_self _
/-- Unlike masks are doubled to unlike ones. -/
theorem dblM_inj {m n : Nat → Nat} (hm : Bytes16 m) (hn : Bytes16 n) (h : Same16 (dblM m) (dblM n)) : Same16 m n := fun i hi => by
  have hb : Bytes16 (fun i => m i ^^^ n i) := fun i hi => xor_lt8 (hm i hi) (hn i hi)
  refine xor_zero_iff.1 (dblM_zero hb (fun j hj => ?_) i hi)
  rw [dblM_xor hm hn j hj]
  exact xor_zero_iff.2 (h j hj)

/-- A stamp's tweak. -/
def twk (s : Nat) (i : Nat) : Nat := if i < 8 then s / 256 ^ i % 256 else 0
theorem twk_lt (s : Nat) : Bytes16 (twk s) := fun i _ => by
  unfold twk
  split
  · exact Nat.mod_lt _ (by decide)
  · decide
theorem twk_step {s t : Nat} : ∀ k, (∀ i, i < k → s / 256 ^ i % 256 = t / 256 ^ i % 256) → s % 256 ^ k = t % 256 ^ k
  | 0, _ => by simp [Nat.mod_one]
  | k + 1, h => by
    have ih := twk_step k (fun i hi => h i (by omega))
    have hk := h k (by omega)
    have e : ∀ x : Nat, x % 256 ^ (k + 1) = x % 256 ^ k + 256 ^ k * (x / 256 ^ k % 256) := fun x => by rw [Nat.pow_succ, Nat.mod_mul]
    rw [e, e, ih, hk]
theorem twk_inj {s t : Nat} (hs : s < 18446744073709551616) (ht : t < 18446744073709551616) (h : Same16 (twk s) (twk t)) : s = t := by
  have := twk_step (s := s) (t := t) 8 (fun i hi => by
    have := h i (by omega)
    unfold twk at this
    rwa [if_pos hi, if_pos hi] at this)
  rwa [Nat.mod_eq_of_lt (by exact hs), Nat.mod_eq_of_lt (by exact ht)] at this

/-- The masks one behind the other. -/
def maskTo (m : Nat → Nat) : Nat → Nat → Nat
  | 0 => m
  | k + 1 => dblM (maskTo m k)
theorem maskTo_lt {m : Nat → Nat} (hm : Bytes16 m) : ∀ k, Bytes16 (maskTo m k)
  | 0 => hm
  | k + 1 => dblM_lt (maskTo_lt hm k)
def xor16 (x m : Nat → Nat) : Nat → Nat := fun i => x i ^^^ m i
theorem xor16_lt {x m : Nat → Nat} (hx : Bytes16 x) (hm : Bytes16 m) : Bytes16 (xor16 x m) := fun i hi => xor_lt8 (hx i hi) (hm i hi)
theorem xor16_same {x y : Nat → Nat} (h : Same16 x y) (m : Nat → Nat) : Same16 (xor16 x m) (xor16 y m) := fun i hi => by unfold xor16; rw [h i hi]
theorem xor16_twice (x m : Nat → Nat) : xor16 (xor16 x m) m = x := by
  funext i; unfold xor16; rw [Nat.xor_assoc, Nat.xor_self, Nat.xor_zero]
/-- A block turned by E under a mask. -/
def under (E : (Nat → Nat) → Nat → Nat) (m x : Nat → Nat) : Nat → Nat := xor16 (E (xor16 x m)) m
/-- The block at k of a text. -/
def blk (b : Nat → Nat) (k : Nat) : Nat → Nat := fun i => b (16 * k + i)
/-- A sector's k first blocks turned. -/
def sec (E : (Nat → Nat) → Nat → Nat) (m b : Nat → Nat) : Nat → Nat := fun i => under E (maskTo m (i / 16)) (blk b (i / 16)) (i % 16)
end Go.Proofs.Ytecmagenlbnchaa
namespace Go.Proofs.Ytecmagenlbnchaa
set_option maxRecDepth 100000

/-- All products of digits. -/
def clTo (a b : Nat) : Nat → Nat
  | 0 => 0
  | i + 1 => if b / 2 ^ i % 2 = 1 then clTo a b i ^^^ a * 2 ^ i else clTo a b i
/-- .. and what is above the seventh power taken away. -/
def redTo (p : Nat) : Nat → Nat
  | 0 => p
  | k + 1 => if redTo p k / 2 ^ (14 - k) % 2 = 1 then redTo p k ^^^ 283 * 2 ^ (6 - k) else redTo p k
def rmul (a b : Nat) : Nat := redTo (clTo a b 8) 7 % 256

theorem bit_xor (b c i : Nat) : (b ^^^ c) / 2 ^ i % 2 = (b / 2 ^ i % 2 + c / 2 ^ i % 2) % 2 := by
  have e : (b ^^^ c) / 2 ^ i = b / 2 ^ i ^^^ c / 2 ^ i := by
    rw [← Nat.shiftRight_eq_div_pow, ← Nat.shiftRight_eq_div_pow, ← Nat.shiftRight_eq_div_pow, Nat.shiftRight_xor_distrib]
  rw [e]
  have h := @Nat.xor_mod_two_pow (b / 2 ^ i) (c / 2 ^ i) 1
  rw [Nat.pow_one] at h
  rw [h]
  rcases Nat.mod_two_eq_zero_or_one (b / 2 ^ i) with h1 | h1 <;> rcases Nat.mod_two_eq_zero_or_one (c / 2 ^ i) with h2 | h2 <;> simp [h1, h2]
theorem xor_step (x y s : Nat) (p q : Prop) [Decidable p] [Decidable q] (r : Prop) [Decidable r] (h : r ↔ (p ∧ ¬ q) ∨ (¬ p ∧ q)) :
    (if r then (x ^^^ y) ^^^ s else x ^^^ y) = (if p then x ^^^ s else x) ^^^ (if q then y ^^^ s else y) := by
  by_cases hp : p <;> by_cases hq : q <;> simp [h, hp, hq]
  · rw [Nat.xor_assoc x s, Nat.xor_comm s, Nat.xor_assoc y, Nat.xor_self, Nat.xor_zero]
  · rw [Nat.xor_assoc, Nat.xor_assoc, Nat.xor_comm y s]
  · rw [Nat.xor_assoc]
theorem par_iff (m n : Nat) : ((m % 2 + n % 2) % 2 = 1) ↔ (m % 2 = 1 ∧ ¬ n % 2 = 1) ∨ (¬ m % 2 = 1 ∧ n % 2 = 1) := by omega
theorem clTo_xor (a b c : Nat) : ∀ i, clTo a (b ^^^ c) i = clTo a b i ^^^ clTo a c i
  | 0 => by simp [clTo]
  | i + 1 => by
    unfold clTo
    rw [clTo_xor a b c i]
    exact xor_step _ _ _ _ _ _ (by rw [bit_xor]; exact par_iff _ _)
theorem redTo_xor (p q : Nat) : ∀ k, redTo (p ^^^ q) k = redTo p k ^^^ redTo q k
  | 0 => rfl
  | k + 1 => by
    unfold redTo
    rw [redTo_xor p q k]
    exact xor_step _ _ _ _ _ _ (by rw [bit_xor]; exact par_iff _ _)
theorem rmul_xor (a b c : Nat) : rmul a (b ^^^ c) = rmul a b ^^^ rmul a c := by
  unfold rmul
  rw [clTo_xor, redTo_xor]
  exact @Nat.xor_mod_two_pow _ _ 8
theorem lo_hi {b : Nat} (hb : b < 256) : b = (b % 16) ^^^ (16 * (b / 16)) :=
  eq_of_beq (of_all (p := fun b => b == (b % 16) ^^^ (16 * (b / 16))) (by decide +kernel) hb)
/-- What holds of each pair of a byte and a half byte, by trying all. -/
theorem of_all2 {p : Nat → Nat → Bool} (h : (List.range 256).all (fun a => (List.range 16).all (p a)) = true) {a b : Nat} (ha : a < 256) (hb : b < 16) : p a b = true :=
  List.all_eq_true.1 (List.all_eq_true.1 h a (List.mem_range.2 ha)) b (List.mem_range.2 hb)
theorem rmul_eq {a b : Nat} (ha : a < 256) (hb : b < 256) : rmul a b = gmul a b := by
  have h1 : rmul a (b % 16) = gmul a (b % 16) := eq_of_beq (of_all2 (p := fun a b => rmul a b == gmul a b) (by decide +kernel) ha (Nat.mod_lt _ (by decide)))
  have h2 : rmul a (16 * (b / 16)) = gmul a (16 * (b / 16)) := eq_of_beq (of_all2 (p := fun a b => rmul a (16 * b) == gmul a (16 * b)) (by decide +kernel) ha (show b / 16 < 16 by omega))
  rw [lo_hi hb, rmul_xor, gmul_xor, h1, h2]

theorem inv_mul {a b : Nat} (ha : a < 256) (h0 : a ≠ 0) (hb : b < 256) : gmul (ginv a) (gmul a b) = b := by
  have h1 : gmul (ginv a) (gmul a (b % 16)) = b % 16 := by
    have := of_all2 (p := fun a b => a == 0 || gmul (ginv a) (gmul a b) == b) (by decide +kernel) ha (Nat.mod_lt b (show 0 < 16 by decide))
    simpa [h0] using this
  have h2 : gmul (ginv a) (gmul a (16 * (b / 16))) = 16 * (b / 16) := by
    have := of_all2 (p := fun a b => a == 0 || gmul (ginv a) (gmul a (16 * b)) == 16 * b) (by decide +kernel) ha (show b / 16 < 16 by omega)
    simpa [h0] using this
  conv => lhs; rw [lo_hi hb]
  rw [gmul_xor, gmul_xor, h1, h2, ← lo_hi hb]
theorem mul_inv {a : Nat} (ha : a < 256) (h0 : a ≠ 0) : gmul a (ginv a) = 1 := by
  have := of_all (p := fun a => a == 0 || gmul a (ginv a) == 1) (by decide +kernel) ha
  simpa [h0] using this
theorem inv_one {a : Nat} (ha : a < 256) : gmul (ginv a) 1 = ginv a :=
  eq_of_beq (of_all (p := fun a => gmul (ginv a) 1 == ginv a) (by decide +kernel) ha)
/-- The one byte whose product with a is one. -/
theorem inv_iff {a b : Nat} (ha : a < 256) (h0 : a ≠ 0) (hb : b < 256) : rmul a b = 1 ↔ b = ginv a := by
  rw [rmul_eq ha hb]
  constructor
  · intro h
    have := inv_mul ha h0 hb
    rw [h, inv_one ha] at this
    exact this.symm
  · rintro rfl; exact mul_inv ha h0
theorem rmul_zero {b : Nat} (hb : b < 256) : rmul 0 b = 0 := by
  rw [rmul_eq (by decide) hb]
  exact eq_of_beq (of_all (p := fun b => gmul 0 b == 0) (by decide +kernel) hb)

def rpow (a : Nat) : Nat → Nat
  | 0 => 1
  | n + 1 => rmul (rpow a n) a
theorem rpow_two {n : Nat} (hn : n < 7) : rpow 2 n = gpow 2 n := by
  have h : (List.range 256).all (fun n => decide (7 ≤ n) || rpow 2 n == gpow 2 n) = true := by decide +kernel
  have h1 := of_all h (show n < 256 by omega)
  rw [Bool.or_eq_true, decide_eq_true_iff] at h1
  rcases h1 with h1 | h1
  · omega
  · exact eq_of_beq h1

/-- The box, digit by digit. -/
def dig (v i : Nat) : Nat := v / 2 ^ i % 2
def boxD (v i : Nat) : Nat := (dig v i + dig v ((i + 7) % 8) + dig v ((i + 6) % 8) + dig v ((i + 5) % 8) + dig v ((i + 4) % 8) + dig 99 i) % 2
def byteD (l : Nat → Nat) : Nat → Nat
  | 0 => 0
  | k + 1 => 2 * byteD l k + l (7 - k)
theorem rbox_eq {v : Nat} (hv : v < 256) : byteD (boxD v) 8 = v ^^^ 99 ^^^ rotl8 v 1 ^^^ rotl8 v 2 ^^^ rotl8 v 3 ^^^ rotl8 v 4 :=
  eq_of_beq (of_all (p := fun v => byteD (boxD v) 8 == v ^^^ 99 ^^^ rotl8 v 1 ^^^ rotl8 v 2 ^^^ rotl8 v 3 ^^^ rotl8 v 4) (by decide +kernel) hv)
theorem rbox_gbox {a : Nat} (ha : a < 256) : byteD (boxD (ginv a)) 8 = gbox a := rbox_eq (ginv_lt ha)
/-- The one byte whose box it is. -/
theorem unb_iff {a i : Nat} (ha : a < 256) (hi : i < 256) : gbox i = a ↔ i = gunb a := by
  constructor
  · intro h; rw [← h]; exact (unb_box i hi).symm
  · intro h; rw [h]; exact (unb_lt_box a ha).2
end Go.Proofs.Ytecmagenlbnchaa
