/-
  AES reckoned fast: blocks and words as one number each; what fixed keys and blocks come to is then found by reckoning. No condition; no program in sight.
-/
import Derived.Test.YtnadgjlmlnhknaaAesWords
namespace Go.Proofs.Ytnadgjlmlnhknaa

/-- x reckoned first, then f of it. -/
def frc (x : Nat) (f : Nat → Nat) : Nat := Nat.rec (f 0) (fun k _ => f (k + 1)) x
theorem frc_eq (x : Nat) (f : Nat → Nat) : frc x f = f x := by cases x <;> rfl
/-- The byte i of a number, the least first. -/
def bt (n i : Nat) : Nat := n / 256 ^ i % 256
/-- Bytes as one number. -/
def pk (f : Nat → Nat) : Nat → Nat
  | 0 => 0
  | k + 1 => pk f k + f k * 256 ^ k
theorem pk_lt {f : Nat → Nat} : ∀ k, (∀ i, i < k → f i < 256) → pk f k < 256 ^ k
  | 0, _ => by simp [pk]
  | k + 1, h => by
    have ih := pk_lt k (fun i hi => h i (by omega))
    have hk := h k (by omega)
    unfold pk
    rw [Nat.pow_succ]
    have : f k * 256 ^ k ≤ 255 * 256 ^ k := Nat.mul_le_mul_right _ (by omega)
    omega
theorem bt_pk {f : Nat → Nat} : ∀ k, (∀ i, i < k → f i < 256) → ∀ i, i < k → bt (pk f k) i = f i
  | 0, _, i, hi => by omega
  | k + 1, h, i, hi => by
    have hp := pk_lt k (fun i hi => h i (by omega))
    unfold bt pk
    by_cases hik : i = k
    · subst hik
      rw [Nat.add_mul_div_right _ _ (Nat.pow_pos (by decide)), Nat.div_eq_of_lt hp, Nat.zero_add, Nat.mod_eq_of_lt (h i (by omega))]
    · have ih := bt_pk k (fun i hi => h i (by omega)) i (by omega)
      rw [← ih]
      unfold bt
      obtain ⟨d, hd⟩ : ∃ d, k = i + (d + 1) := ⟨k - i - 1, by omega⟩
      have e : f k * 256 ^ k = (f k * 256 ^ d * 256) * 256 ^ i := by
        rw [hd, Nat.pow_add, Nat.pow_succ]
        ac_rfl
      rw [e, Nat.add_mul_div_right _ _ (Nat.pow_pos (by decide)), Nat.add_mul_mod_self_right]
theorem bt_lt (n i : Nat) : bt n i < 256 := Nat.mod_lt _ (by decide)

def BOX : Nat := 2869618975290639062594974519597816386035077209210385677284518162336985023502962151465775969507961862820568736543004676439868535775640188584098917533413284844376797297285941524888791401501466624530423689326528054213168201056672989590893583853414110162539122864583953358348775951166211353578440977400428507475679327181038682772945817200201960445064847785221508011893952350688324234443749897213621340677040612747745615276448919507935121141307752692835344166708617454322778699219895865633266409040561742768581056182730443599545881830075941537620590442514083341749674612746994879540562701631131184186066652929592955206755
theorem box_bt {a : Nat} (ha : a < 256) : bt BOX a = gbox a :=
  eq_of_beq (of_all (p := fun a => bt BOX a == gbox a) (by decide +kernel) ha)
theorem mul2 {a : Nat} (ha : a < 256) : gmul 2 a = gdbl a := eq_of_beq (of_all (p := fun a => gmul 2 a == gdbl a) (by decide +kernel) ha)
theorem mul3 {a : Nat} (ha : a < 256) : gmul 3 a = gdbl a ^^^ a := eq_of_beq (of_all (p := fun a => gmul 3 a == (gdbl a ^^^ a)) (by decide +kernel) ha)
theorem mul1 {a : Nat} (ha : a < 256) : gmul 1 a = a := eq_of_beq (of_all (p := fun a => gmul 1 a == a) (by decide +kernel) ha)

def rowsP (s : Nat) : Nat := pk (fun i => bt BOX (bt s ((i + 4 * (i % 4)) % 16))) 16
theorem rowsP_eq (s : Nat) : Same16 (bt (rowsP s)) (rowsF gbox (bt s)) := fun i hi => by
  unfold rowsP
  rw [bt_pk 16 (fun _ _ => bt_lt _ _) i hi, box_bt (bt_lt _ _)]
  rfl
def colP (s i : Nat) : Nat := gdbl (bt s (4 * (i / 4) + (i + 0) % 4)) ^^^ (gdbl (bt s (4 * (i / 4) + (i + 1) % 4)) ^^^ bt s (4 * (i / 4) + (i + 1) % 4)) ^^^ bt s (4 * (i / 4) + (i + 2) % 4) ^^^ bt s (4 * (i / 4) + (i + 3) % 4)
theorem colP_eq (s i : Nat) : colP s i = colsF 2 3 1 1 (bt s) i := by
  unfold colP colsF
  rw [mul2 (bt_lt _ _), mul3 (bt_lt _ _), mul1 (bt_lt _ _), mul1 (bt_lt _ _)]
def midP (W r s : Nat) : Nat := pk (fun i => (if r < 14 then colP s i else bt s i) ^^^ bt W (16 * r + i)) 16
def turnP (W x : Nat) : Nat → Nat
  | 0 => pk (fun i => bt x i ^^^ bt W i) 16
  | r + 1 => frc (turnP W x r) fun s => frc (rowsP s) fun t => midP W (r + 1) t
theorem turnP_eq (W x : Nat) : ∀ r, Same16 (bt (turnP W x r)) (turnTo (bt W) (bt x) r)
  | 0 => fun i hi => by
    unfold turnP
    rw [bt_pk 16 (fun _ _ => xor_lt8 (bt_lt _ _) (bt_lt _ _)) i hi]
    show _ = bt x i ^^^ bt W (16 * 0 + i)
    rw [Nat.mul_zero, Nat.zero_add]
  | r + 1 => by
    have ih := turnP_eq W x r
    have h1 : Same16 (bt (rowsP (turnP W x r))) (rowsF gbox (turnTo (bt W) (bt x) r)) := (rowsP_eq _).trans (ih.rows gbox)
    have h2 : Same16 (fun i => if r + 1 < 14 then colP (rowsP (turnP W x r)) i else bt (rowsP (turnP W x r)) i) (midF (r + 1) (turnTo (bt W) (bt x) r)) := by
      unfold midF
      by_cases h : r + 1 < 14
      · intro i hi
        show (if r + 1 < 14 then colP _ i else _) = (if r + 1 < 14 then colsF 2 3 1 1 _ else _) i
        rw [if_pos h, if_pos h, colP_eq]
        exact h1.cols 2 3 1 1 i hi
      · intro i hi
        show (if r + 1 < 14 then colP _ i else _) = (if r + 1 < 14 then colsF 2 3 1 1 _ else _) i
        rw [if_neg h, if_neg h]
        exact h1 i hi
    intro i hi
    have hb : ∀ j, j < 16 → (if r + 1 < 14 then colP (rowsP (turnP W x r)) j else bt (rowsP (turnP W x r)) j) < 256 := fun j hj => by
      split
      · rw [colP_eq]
        exact Bytes16.cols (x := bt (rowsP (turnP W x r))) (fun _ _ => bt_lt _ _) (by decide) (by decide) (by decide) (by decide) j hj
      · exact bt_lt _ _
    unfold turnP
    rw [frc_eq, frc_eq]
    unfold midP
    rw [bt_pk 16 (fun j hj => xor_lt8 (hb j hj) (bt_lt _ _)) i hi, turnTo_succ]
    exact (h2.add (bt W) (r + 1)) i hi

/-- The words of a key, as one number. -/
def nextP (key s i k : Nat) : Nat :=
  if i < 8 then bt key (4 * i + k)
  else
    let v := if i % 8 = 0 then bt s (4 * (i - 1) + (k + 1) % 4) else bt s (4 * (i - 1) + k)
    let u := if i % 4 = 0 then bt BOX v else v
    bt s (4 * (i - 8) + k) ^^^ (if i % 8 = 0 ∧ k = 0 then u ^^^ gpow 2 (i / 8 - 1) else u)
def wordsP (key : Nat) : Nat → Nat
  | 0 => 0
  | i + 1 => frc (wordsP key i) fun s => s + pk (nextP key s i) 4 * 256 ^ (4 * i)
theorem bt_add_hi {s p n q : Nat} (hs : s < 256 ^ n) (hq : n ≤ q) : bt (s + p * 256 ^ n) q = bt p (q - n) := by
  unfold bt
  rw [show q = n + (q - n) by omega, Nat.pow_add, ← Nat.div_div_eq_div_mul, Nat.add_mul_div_right _ _ (Nat.pow_pos (by decide)), Nat.div_eq_of_lt hs, Nat.zero_add]
  congr 3; omega
theorem bt_add_lo {s p n q : Nat} (hq : q < n) : bt (s + p * 256 ^ n) q = bt s q := by
  unfold bt
  obtain ⟨d, hd⟩ : ∃ d, n = q + (d + 1) := ⟨n - q - 1, by omega⟩
  have e : p * 256 ^ n = (p * 256 ^ d * 256) * 256 ^ q := by
    rw [hd, Nat.pow_add, Nat.pow_succ]
    ac_rfl
  rw [e, Nat.add_mul_div_right _ _ (Nat.pow_pos (by decide)), Nat.add_mul_mod_self_right]
theorem nextP_lt (key s i k : Nat) : nextP key s i k < 256 := by
  have hv : (if i % 8 = 0 then bt s (4 * (i - 1) + (k + 1) % 4) else bt s (4 * (i - 1) + k)) < 256 := by split <;> exact bt_lt _ _
  unfold nextP
  split
  · exact bt_lt _ _
  · refine xor_lt8 (bt_lt _ _) ?_
    have hu : (if i % 4 = 0 then bt BOX (if i % 8 = 0 then bt s (4 * (i - 1) + (k + 1) % 4) else bt s (4 * (i - 1) + k)) else (if i % 8 = 0 then bt s (4 * (i - 1) + (k + 1) % 4) else bt s (4 * (i - 1) + k))) < 256 := by
      split
      · exact bt_lt _ _
      · exact hv
    show (if i % 8 = 0 ∧ k = 0 then (if i % 4 = 0 then _ else _) ^^^ _ else (if i % 4 = 0 then _ else _)) < 256
    split
    · exact xor_lt8 hu (gpow_lt _ (by decide))
    · exact hu
theorem wordsP_lt (key : Nat) : ∀ i, wordsP key i < 256 ^ (4 * i)
  | 0 => by simp [wordsP]
  | i + 1 => by
    have ih := wordsP_lt key i
    have hp := pk_lt (f := nextP key (wordsP key i) i) 4 (fun _ _ => nextP_lt _ _ _ _)
    unfold wordsP
    rw [frc_eq, show 4 * (i + 1) = 4 + 4 * i by omega, Nat.pow_add]
    have : pk (nextP key (wordsP key i) i) 4 * 256 ^ (4 * i) ≤ (256 ^ 4 - 1) * 256 ^ (4 * i) := Nat.mul_le_mul_right _ (by omega)
    have e : (256 ^ 4 - 1) * 256 ^ (4 * i) + 256 ^ (4 * i) = 256 ^ 4 * 256 ^ (4 * i) := by
      have : (256 : Nat) ^ 4 = (256 ^ 4 - 1) + 1 := by decide
      rw [this, Nat.add_mul, Nat.one_mul]
    omega
theorem wordsP_eq (key : Nat) : ∀ i, ∀ q, q < 4 * i → bt (wordsP key i) q = byt (wordsTo (bt key) i) q
  | 0, q, h => by omega
  | i + 1, q, h => by
    have ih := wordsP_eq key i
    have hl := wordsP_lt key i
    unfold wordsP
    rw [frc_eq]
    by_cases hq : q < 4 * i
    · rw [bt_add_lo hq, byt_words_lo _ i hq]; exact ih q hq
    · rw [bt_add_hi hl (by omega), bt_pk 4 (fun _ _ => nextP_lt _ _ _ _) _ (by omega), show q = 4 * i + (q - 4 * i) by omega, byt_words_hi, show 4 * i + (q - 4 * i) - 4 * i = q - 4 * i by omega]
      have hk : q - 4 * i < 4 := by omega
      generalize q - 4 * i = k at *
      by_cases h8 : i < 8
      · rw [nextW_lo _ _ h8, byt_range4 _ hk]; unfold nextP; rw [if_pos h8]
      · have e1 : ∀ j, j < 4 → bt (wordsP key i) (4 * (i - 1) + j) = byt (wordsTo (bt key) i) (4 * (i - 1) + j) := fun j hj => ih _ (by omega)
        have e8 : bt (wordsP key i) (4 * (i - 8) + k) = byt (wordsTo (bt key) i) (4 * (i - 8) + k) := ih _ (by omega)
        have hs := words_lt (key := bt key) (bt_lt key) i
        rw [nextW_hi _ _ h8, byt_range4 _ hk]
        unfold nextP powW boxW rotW prevW
        rw [if_neg h8]
        simp only [e1 _ hk, e1 _ (Nat.mod_lt (k + 1) (show 0 < 4 by decide)), e8]
        rw [box_bt (by split <;> exact hs _)]
theorem wordsP_of {key : Nat} {f : Nat → Nat} (hf : ∀ q, q < 32 → f q = bt key q) {W : Nat} (hW : wordsP key 60 = W) : ∀ q, q < 240 → byt (wordsOf f) q = bt W q := fun q hq => by
  have key0 : ∀ i, i ≤ 60 → wordsTo f i = wordsTo (bt key) i := fun i => by
    induction i with
    | zero => intro _; rfl
    | succ i ih =>
      intro hi
      show wordsTo f i ++ nextW f (wordsTo f i) i = wordsTo (bt key) i ++ nextW (bt key) (wordsTo (bt key) i) i
      rw [ih (by omega)]
      congr 1
      by_cases h8 : i < 8
      · rw [nextW_lo _ _ h8, nextW_lo _ _ h8]
        exact List.map_congr_left fun k hk4 => hf _ (by have := List.mem_range.1 hk4; omega)
      · rw [nextW_hi _ _ h8, nextW_hi _ _ h8]
  unfold wordsOf
  rw [key0 60 (Nat.le_refl _), ← hW]
  exact (wordsP_eq key 60 q hq).symm
theorem turnTo_words {W W' x : Nat → Nat} (h : ∀ q, q < 240 → W q = W' q) : ∀ r, r ≤ 14 → Same16 (turnTo W x r) (turnTo W' x r)
  | 0, _ => fun i hi => by show x i ^^^ W (16 * 0 + i) = x i ^^^ W' (16 * 0 + i); rw [h _ (by omega)]
  | r + 1, hr => by
    have ih := turnTo_words (x := x) h r (by omega)
    intro i hi
    rw [turnTo_succ, turnTo_succ]
    show midF (r + 1) (turnTo W x r) i ^^^ W (16 * (r + 1) + i) = midF (r + 1) (turnTo W' x r) i ^^^ W' (16 * (r + 1) + i)
    rw [h _ (by omega), ih.midF (r + 1) i hi]
/-- A block turned by a key, reckoned. -/
theorem turn_reckoned {key : Nat} {f : Nat → Nat} (hf : ∀ q, q < 32 → f q = bt key q) {W : Nat} (hW : wordsP key 60 = W) {x : Nat} {b : Nat → Nat} (hb : ∀ i, i < 16 → b i = bt x i) {y : Nat} (hy : turnP W x 14 = y) : Same16 (turnF (byt (wordsOf f)) b) (bt y) := by
  rw [← hy]
  have h1 : Same16 (turnF (byt (wordsOf f)) b) (turnF (byt (wordsOf f)) (bt x)) := same_turn hb
  have h2 := turnTo_words (x := bt x) (wordsP_of hf hW) 14 (Nat.le_refl _)
  exact h1.trans (h2.trans (turnP_eq W x 14).symm)
/-- A block turned by a key, each as a number. -/
def turnK (key x : Nat) : Nat := frc (wordsP key 60) fun W => frc x fun x => turnP W x 14
theorem turn_key {key : Nat} {f : Nat → Nat} (hf : ∀ q, q < 32 → f q = bt key q) {x : Nat} {b : Nat → Nat} (hb : ∀ i, i < 16 → b i = bt x i) : Same16 (turnF (byt (wordsOf f)) b) (bt (turnK key x)) := by
  unfold turnK
  rw [frc_eq, frc_eq]
  exact turn_reckoned hf rfl hb rfl
/-- Numbers of a fixed call (the key 0, 1, .., the block 0, 17, ..). -/
example : turnP (wordsP (pk (fun i => i) 32) 60) (pk (fun i => 17 * i) 16) 14 % 4294967296 = 142 + 256 * (162 + 256 * (183 + 256 * 202)) := by decide +kernel
end Go.Proofs.Ytnadgjlmlnhknaa
