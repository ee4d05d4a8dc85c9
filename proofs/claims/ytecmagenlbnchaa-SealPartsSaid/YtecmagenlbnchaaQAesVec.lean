/-
  The key's words, plainly.
  AES reckoned fast: blocks and words as one number each; what fixed keys and blocks come to is then found by reckoning. No condition; no program in sight.
  The fixed call's words and states: each step by reckoning. (Printed by wip/tools/aesvec.py.)
-/
import Derived.Test.YtecmagenlbnchaaQGfRefPlain
import Derived.Test.YtecmagenlbnchaaQRowB
namespace Go.Proofs.Ytecmagenlbnchaa
set_option maxRecDepth 100000

def prevW (L : List Nat) (i k : Nat) : Nat := byt L (4 * (i - 1) + k)
def rotW (L : List Nat) (i k : Nat) : Nat := if i % 8 = 0 then prevW L i ((k + 1) % 4) else prevW L i k
def boxW (L : List Nat) (i k : Nat) : Nat := if i % 4 = 0 then gbox (rotW L i k) else rotW L i k
def powW (L : List Nat) (i k : Nat) : Nat := if i % 8 = 0 ∧ k = 0 then boxW L i k ^^^ gpow 2 (i / 8 - 1) else boxW L i k
theorem nextW_hi (key : Nat → Nat) (L : List Nat) {i : Nat} (h : ¬ i < 8) : nextW key L i = (List.range 4).map fun k => byt L (4 * (i - 8) + k) ^^^ powW L i k := by
  unfold nextW
  rw [if_neg h]
  rfl
theorem nextW_lo (key : Nat → Nat) (L : List Nat) {i : Nat} (h : i < 8) : nextW key L i = (List.range 4).map fun k => key (4 * i + k) := by
  unfold nextW
  rw [if_pos h]
  rfl
theorem byt_range4 (f : Nat → Nat) {k : Nat} (hk : k < 4) : byt ((List.range 4).map f) k = f k := by simp [byt, List.getD, hk]
theorem byt_words_lo (key : Nat → Nat) (i : Nat) {q : Nat} (h : q < 4 * i) : byt (wordsTo key (i + 1)) q = byt (wordsTo key i) q := by
  unfold byt
  rw [show wordsTo key (i + 1) = wordsTo key i ++ nextW key (wordsTo key i) i from rfl, List.getD_eq_getElem?_getD, List.getD_eq_getElem?_getD, List.getElem?_append_left (by rw [length_wordsTo]; exact h)]
theorem byt_words_hi (key : Nat → Nat) (i : Nat) (k : Nat) : byt (wordsTo key (i + 1)) (4 * i + k) = byt (nextW key (wordsTo key i) i) k := by
  unfold byt
  rw [show wordsTo key (i + 1) = wordsTo key i ++ nextW key (wordsTo key i) i from rfl, List.getD_eq_getElem?_getD, List.getD_eq_getElem?_getD, List.getElem?_append_right (by rw [length_wordsTo]; omega), length_wordsTo, show 4 * i + k - 4 * i = k by omega]
theorem prevW_lt {L : List Nat} (h : ∀ q, byt L q < 256) (i k : Nat) : prevW L i k < 256 := h _
theorem rotW_lt {L : List Nat} (h : ∀ q, byt L q < 256) (i k : Nat) : rotW L i k < 256 := by unfold rotW; split <;> exact prevW_lt h _ _
theorem boxW_lt {L : List Nat} (h : ∀ q, byt L q < 256) (i k : Nat) : boxW L i k < 256 := by
  unfold boxW; split
  · exact gbox_lt (rotW_lt h _ _)
  · exact rotW_lt h _ _
theorem powW_lt {L : List Nat} (h : ∀ q, byt L q < 256) (i k : Nat) : powW L i k < 256 := by
  unfold powW; split
  · exact xor_lt8 (boxW_lt h _ _) (gpow_lt _ (by decide))
  · exact boxW_lt h _ _
theorem words_lt {key : Nat → Nat} (hs : ∀ i, key i < 256) : ∀ i q, byt (wordsTo key i) q < 256
  | 0, q => show (([] : List Nat).getD q 0) < 256 by simp
  | i + 1, q => by
    by_cases h : q < 4 * i
    · rw [byt_words_lo key i h]; exact words_lt hs i q
    · by_cases h2 : q < 4 * i + 4
      · rw [show q = 4 * i + (q - 4 * i) by omega, byt_words_hi]
        have hk : q - 4 * i < 4 := by omega
        by_cases h8 : i < 8
        · rw [nextW_lo key _ h8, byt_range4 _ hk]; exact hs _
        · rw [nextW_hi key _ h8, byt_range4 _ hk]; exact xor_lt8 (words_lt hs i _) (powW_lt (words_lt hs i) _ _)
      · have e : (wordsTo key (i + 1))[q]? = none := List.getElem?_eq_none (by rw [length_wordsTo]; omega)
        unfold byt
        rw [List.getD_eq_getElem?_getD, e]
        decide
/-- The first words lie there. -/
def Wd (F : Nat → Nat) (key : Nat → Nat) (i : Nat) : Prop := ∀ q, q < 4 * i → F q = byt (wordsTo key i) q
/-- .. and of the next the first k bytes. -/
def WdPart (F : Nat → Nat) (key : Nat → Nat) (i k : Nat) : Prop := Wd F key i ∧ ∀ q, q < k → F (4 * i + q) = byt (nextW key (wordsTo key i) i) q
theorem WdPart.next {F : Nat → Nat} {key : Nat → Nat} {i : Nat} (h : WdPart F key i 4) : Wd F key (i + 1) := fun q hq => by
  by_cases h1 : q < 4 * i
  · rw [byt_words_lo key i h1]; exact h.1 q h1
  · rw [show q = 4 * i + (q - 4 * i) by omega, byt_words_hi]; exact h.2 _ (by omega)
theorem WdPart.none {F : Nat → Nat} {key : Nat → Nat} {i : Nat} (h : Wd F key i) : WdPart F key i 0 := ⟨h, fun q hq => by omega⟩
end Go.Proofs.Ytecmagenlbnchaa
namespace Go.Proofs.Ytecmagenlbnchaa
set_option maxRecDepth 100000

/-- x reckoned first, then f of it. -/
def frc (x : Nat) (f : Nat → Nat) : Nat := Nat.rec (f 0) (fun k _ => f (k + 1)) x
theorem frc_eq (x : Nat) (f : Nat → Nat) : frc x f = f x := by cases x <;> rfl
/-- The byte i of a number, the least first. -/
def bt (n i : Nat) : Nat := n / 256 ^ i % 256
/-- Bytes as one number. -/
def pk (f : Nat → Nat) : Nat → Nat
  | 0 => 0
  | k + 1 => pk f k + f k * 256 ^ k
theorem pk_lt {f : Nat → Nat} : ∀ k, (∀ i, i < k → f i < 256) → pk f k < 256 ^ k
  | 0, _ => by simp [pk]
  | k + 1, h => by
    have ih := pk_lt k (fun i hi => h i (by omega))
    have hk := h k (by omega)
    unfold pk
    rw [Nat.pow_succ]
    have : f k * 256 ^ k ≤ 255 * 256 ^ k := Nat.mul_le_mul_right _ (by omega)
    omega
theorem bt_pk {f : Nat → Nat} : ∀ k, (∀ i, i < k → f i < 256) → ∀ i, i < k → bt (pk f k) i = f i
  | 0, _, i, hi => by omega
  | k + 1, h, i, hi => by
    have hp := pk_lt k (fun i hi => h i (by omega))
    unfold bt pk
    by_cases hik : i = k
    · subst hik
      rw [Nat.add_mul_div_right _ _ (Nat.pow_pos (by decide)), Nat.div_eq_of_lt hp, Nat.zero_add, Nat.mod_eq_of_lt (h i (by omega))]
    · have ih := bt_pk k (fun i hi => h i (by omega)) i (by omega)
      rw [← ih]
      unfold bt
      obtain ⟨d, hd⟩ : ∃ d, k = i + (d + 1) := ⟨k - i - 1, by omega⟩
      have e : f k * 256 ^ k = (f k * 256 ^ d * 256) * 256 ^ i := by
        rw [hd, Nat.pow_add, Nat.pow_succ]
        ac_rfl
      rw [e, Nat.add_mul_div_right _ _ (Nat.pow_pos (by decide)), Nat.add_mul_mod_self_right]
theorem bt_lt (n i : Nat) : bt n i < 256 := Nat.mod_lt _ (by decide)

def BOX : Nat := 2869618975290639062594974519597816386035077209210385677284518162336985023502962151465775969507961862820568736543004676439868535775640188584098917533413284844376797297285941524888791401501466624530423689326528054213168201056672989590893583853414110162539122864583953358348775951166211353578440977400428507475679327181038682772945817200201960445064847785221508011893952350688324234443749897213621340677040612747745615276448919507935121141307752692835344166708617454322778699219895865633266409040561742768581056182730443599545881830075941537620590442514083341749674612746994879540562701631131184186066652929592955206755
theorem box_bt {a : Nat} (ha : a < 256) : bt BOX a = gbox a :=
  eq_of_beq (of_all (p := fun a => bt BOX a == gbox a) (by decide +kernel) ha)
theorem mul2 {a : Nat} (ha : a < 256) : gmul 2 a = gdbl a := eq_of_beq (of_all (p := fun a => gmul 2 a == gdbl a) (by decide +kernel) ha)
theorem mul3 {a : Nat} (ha : a < 256) : gmul 3 a = gdbl a ^^^ a := eq_of_beq (of_all (p := fun a => gmul 3 a == (gdbl a ^^^ a)) (by decide +kernel) ha)
theorem mul1 {a : Nat} (ha : a < 256) : gmul 1 a = a := eq_of_beq (of_all (p := fun a => gmul 1 a == a) (by decide +kernel) ha)

def rowsP (s : Nat) : Nat := pk (fun i => bt BOX (bt s ((i + 4 * (i % 4)) % 16))) 16
theorem rowsP_eq (s : Nat) : Same16 (bt (rowsP s)) (rowsF gbox (bt s)) := fun i hi => by
  unfold rowsP
  rw [bt_pk 16 (fun _ _ => bt_lt _ _) i hi, box_bt (bt_lt _ _)]
  rfl
def colP (s i : Nat) : Nat := gdbl (bt s (4 * (i / 4) + (i + 0) % 4)) ^^^ (gdbl (bt s (4 * (i / 4) + (i + 1) % 4)) ^^^ bt s (4 * (i / 4) + (i + 1) % 4)) ^^^ bt s (4 * (i / 4) + (i + 2) % 4) ^^^ bt s (4 * (i / 4) + (i + 3) % 4)
theorem colP_eq (s i : Nat) : colP s i = colsF 2 3 1 1 (bt s) i := by
  unfold colP colsF
  rw [mul2 (bt_lt _ _), mul3 (bt_lt _ _), mul1 (bt_lt _ _), mul1 (bt_lt _ _)]
def midP (W r s : Nat) : Nat := pk (fun i => (if r < 14 then colP s i else bt s i) ^^^ bt W (16 * r + i)) 16
def turnP (W x : Nat) : Nat → Nat
  | 0 => pk (fun i => bt x i ^^^ bt W i) 16
  | r + 1 => frc (turnP W x r) fun s => frc (rowsP s) fun t => midP W (r + 1) t
theorem turnP_eq (W x : Nat) : ∀ r, Same16 (bt (turnP W x r)) (turnTo (bt W) (bt x) r)
  | 0 => fun i hi => by
    unfold turnP
    rw [bt_pk 16 (fun _ _ => xor_lt8 (bt_lt _ _) (bt_lt _ _)) i hi]
    show _ = bt x i ^^^ bt W (16 * 0 + i)
    rw [Nat.mul_zero, Nat.zero_add]
  | r + 1 => by
    have ih := turnP_eq W x r
    have h1 : Same16 (bt (rowsP (turnP W x r))) (rowsF gbox (turnTo (bt W) (bt x) r)) := (rowsP_eq _).trans (ih.rows gbox)
    have h2 : Same16 (fun i => if r + 1 < 14 then colP (rowsP (turnP W x r)) i else bt (rowsP (turnP W x r)) i) (midF (r + 1) (turnTo (bt W) (bt x) r)) := by
      unfold midF
      by_cases h : r + 1 < 14
      · intro i hi
        show (if r + 1 < 14 then colP _ i else _) = (if r + 1 < 14 then colsF 2 3 1 1 _ else _) i
        rw [if_pos h, if_pos h, colP_eq]
        exact h1.cols 2 3 1 1 i hi
      · intro i hi
        show (if r + 1 < 14 then colP _ i else _) = (if r + 1 < 14 then colsF 2 3 1 1 _ else _) i
        rw [if_neg h, if_neg h]
        exact h1 i hi
    intro i hi
    have hb : ∀ j, j < 16 → (if r + 1 < 14 then colP (rowsP (turnP W x r)) j else bt (rowsP (turnP W x r)) j) < 256 := fun j hj => by
      split
      · rw [colP_eq]
        exact Bytes16.cols (x := bt (rowsP (turnP W x r))) (fun _ _ => bt_lt _ _) (by decide) (by decide) (by decide) (by decide) j hj
      · exact bt_lt _ _
    unfold turnP
    rw [frc_eq, frc_eq]
    unfold midP
    rw [bt_pk 16 (fun j hj => xor_lt8 (hb j hj) (bt_lt _ _)) i hi, turnTo_succ]
    exact (h2.add (bt W) (r + 1)) i hi

/-- The words of a key, as one number. -/
def nextP (key s i k : Nat) : Nat :=
  if i < 8 then bt key (4 * i + k)
  else
    let v := if i % 8 = 0 then bt s (4 * (i - 1) + (k + 1) % 4) else bt s (4 * (i - 1) + k)
    let u := if i % 4 = 0 then bt BOX v else v
    bt s (4 * (i - 8) + k) ^^^ (if i % 8 = 0 ∧ k = 0 then u ^^^ gpow 2 (i / 8 - 1) else u)
def wordsP (key : Nat) : Nat → Nat
  | 0 => 0
  | i + 1 => frc (wordsP key i) fun s => s + pk (nextP key s i) 4 * 256 ^ (4 * i)
theorem bt_add_hi {s p n q : Nat} (hs : s < 256 ^ n) (hq : n ≤ q) : bt (s + p * 256 ^ n) q = bt p (q - n) := by
  unfold bt
  rw [show q = n + (q - n) by omega, Nat.pow_add, ← Nat.div_div_eq_div_mul, Nat.add_mul_div_right _ _ (Nat.pow_pos (by decide)), Nat.div_eq_of_lt hs, Nat.zero_add]
  congr 3; omega
theorem bt_add_lo {s p n q : Nat} (hq : q < n) : bt (s + p * 256 ^ n) q = bt s q := by
  unfold bt
  obtain ⟨d, hd⟩ : ∃ d, n = q + (d + 1) := ⟨n - q - 1, by omega⟩
  have e : p * 256 ^ n = (p * 256 ^ d * 256) * 256 ^ q := by
    rw [hd, Nat.pow_add, Nat.pow_succ]
    ac_rfl
  rw [e, Nat.add_mul_div_right _ _ (Nat.pow_pos (by decide)), Nat.add_mul_mod_self_right]
theorem nextP_lt (key s i k : Nat) : nextP key s i k < 256 := by
  have hv : (if i % 8 = 0 then bt s (4 * (i - 1) + (k + 1) % 4) else bt s (4 * (i - 1) + k)) < 256 := by split <;> exact bt_lt _ _
  unfold nextP
  split
  · exact bt_lt _ _
  · refine xor_lt8 (bt_lt _ _) ?_
    have hu : (if i % 4 = 0 then bt BOX (if i % 8 = 0 then bt s (4 * (i - 1) + (k + 1) % 4) else bt s (4 * (i - 1) + k)) else (if i % 8 = 0 then bt s (4 * (i - 1) + (k + 1) % 4) else bt s (4 * (i - 1) + k))) < 256 := by
      split
      · exact bt_lt _ _
      · exact hv
    show (if i % 8 = 0 ∧ k = 0 then (if i % 4 = 0 then _ else _) ^^^ _ else (if i % 4 = 0 then _ else _)) < 256
    split
    · exact xor_lt8 hu (gpow_lt _ (by decide))
    · exact hu
theorem wordsP_lt (key : Nat) : ∀ i, wordsP key i < 256 ^ (4 * i)
  | 0 => by simp [wordsP]
  | i + 1 => by
    have ih := wordsP_lt key i
    have hp := pk_lt (f := nextP key (wordsP key i) i) 4 (fun _ _ => nextP_lt _ _ _ _)
    unfold wordsP
    rw [frc_eq, show 4 * (i + 1) = 4 + 4 * i by omega, Nat.pow_add]
    have : pk (nextP key (wordsP key i) i) 4 * 256 ^ (4 * i) ≤ (256 ^ 4 - 1) * 256 ^ (4 * i) := Nat.mul_le_mul_right _ (by omega)
    have e : (256 ^ 4 - 1) * 256 ^ (4 * i) + 256 ^ (4 * i) = 256 ^ 4 * 256 ^ (4 * i) := by
      have : (256 : Nat) ^ 4 = (256 ^ 4 - 1) + 1 := by decide
      rw [this, Nat.add_mul, Nat.one_mul]
    omega
theorem wordsP_eq (key : Nat) : ∀ i, ∀ q, q < 4 * i → bt (wordsP key i) q = byt (wordsTo (bt key) i) q
  | 0, q, h => by omega
  | i + 1, q, h => by
    have ih := wordsP_eq key i
    have hl := wordsP_lt key i
    unfold wordsP
    rw [frc_eq]
    by_cases hq : q < 4 * i
    · rw [bt_add_lo hq, byt_words_lo _ i hq]; exact ih q hq
    · rw [bt_add_hi hl (by omega), bt_pk 4 (fun _ _ => nextP_lt _ _ _ _) _ (by omega), show q = 4 * i + (q - 4 * i) by omega, byt_words_hi, show 4 * i + (q - 4 * i) - 4 * i = q - 4 * i by omega]
      have hk : q - 4 * i < 4 := by omega
      generalize q - 4 * i = k at *
      by_cases h8 : i < 8
      · rw [nextW_lo _ _ h8, byt_range4 _ hk]; unfold nextP; rw [if_pos h8]
      · have e1 : ∀ j, j < 4 → bt (wordsP key i) (4 * (i - 1) + j) = byt (wordsTo (bt key) i) (4 * (i - 1) + j) := fun j hj => ih _ (by omega)
        have e8 : bt (wordsP key i) (4 * (i - 8) + k) = byt (wordsTo (bt key) i) (4 * (i - 8) + k) := ih _ (by omega)
        have hs := words_lt (key := bt key) (bt_lt key) i
        rw [nextW_hi _ _ h8, byt_range4 _ hk]
        unfold nextP powW boxW rotW prevW
        rw [if_neg h8]
        simp only [e1 _ hk, e1 _ (Nat.mod_lt (k + 1) (show 0 < 4 by decide)), e8]
        rw [box_bt (by split <;> exact hs _)]
theorem wordsP_of {key : Nat} {f : Nat → Nat} (hf : ∀ q, q < 32 → f q = bt key q) {W : Nat} (hW : wordsP key 60 = W) : ∀ q, q < 240 → byt (wordsOf f) q = bt W q := fun q hq => by
  have key0 : ∀ i, i ≤ 60 → wordsTo f i = wordsTo (bt key) i := fun i => by
    induction i with
    | zero => intro _; rfl
    | succ i ih =>
      intro hi
      show wordsTo f i ++ nextW f (wordsTo f i) i = wordsTo (bt key) i ++ nextW (bt key) (wordsTo (bt key) i) i
      rw [ih (by omega)]
      congr 1
      by_cases h8 : i < 8
      · rw [nextW_lo _ _ h8, nextW_lo _ _ h8]
        exact List.map_congr_left fun k hk4 => hf _ (by have := List.mem_range.1 hk4; omega)
      · rw [nextW_hi _ _ h8, nextW_hi _ _ h8]
  unfold wordsOf
  rw [key0 60 (Nat.le_refl _), ← hW]
  exact (wordsP_eq key 60 q hq).symm
theorem turnTo_words {W W' x : Nat → Nat} (h : ∀ q, q < 240 → W q = W' q) : ∀ r, r ≤ 14 → Same16 (turnTo W x r) (turnTo W' x r)
  | 0, _ => fun i hi => by show x i ^^^ W (16 * 0 + i) = x i ^^^ W' (16 * 0 + i); rw [h _ (by omega)]
  | r + 1, hr => by
    have ih := turnTo_words (x := x) h r (by omega)
    intro i hi
    rw [turnTo_succ, turnTo_succ]
    show midF (r + 1) (turnTo W x r) i ^^^ W (16 * (r + 1) + i) = midF (r + 1) (turnTo W' x r) i ^^^ W' (16 * (r + 1) + i)
    rw [h _ (by omega), ih.midF (r + 1) i hi]
/-- A block turned by a key, reckoned. -/
theorem turn_reckoned {key : Nat} {f : Nat → Nat} (hf : ∀ q, q < 32 → f q = bt key q) {W : Nat} (hW : wordsP key 60 = W) {x : Nat} {b : Nat → Nat} (hb : ∀ i, i < 16 → b i = bt x i) {y : Nat} (hy : turnP W x 14 = y) : Same16 (turnF (byt (wordsOf f)) b) (bt y) := by
  rw [← hy]
  have h1 : Same16 (turnF (byt (wordsOf f)) b) (turnF (byt (wordsOf f)) (bt x)) := same_turn hb
  have h2 := turnTo_words (x := bt x) (wordsP_of hf hW) 14 (Nat.le_refl _)
  exact h1.trans (h2.trans (turnP_eq W x 14).symm)
/-- A block turned by a key, each as a number. -/
def turnK (key x : Nat) : Nat := frc (wordsP key 60) fun W => frc x fun x => turnP W x 14
theorem turn_key {key : Nat} {f : Nat → Nat} (hf : ∀ q, q < 32 → f q = bt key q) {x : Nat} {b : Nat → Nat} (hb : ∀ i, i < 16 → b i = bt x i) : Same16 (turnF (byt (wordsOf f)) b) (bt (turnK key x)) := by
  unfold turnK
  rw [frc_eq, frc_eq]
  exact turn_reckoned hf rfl hb rfl
/-- Numbers of a fixed call (the key 0, 1, .., the block 0, 17, ..). -/
example : turnP (wordsP (pk (fun i => i) 32) 60) (pk (fun i => 17 * i) 16) 14 % 4294967296 = 142 + 256 * (162 + 256 * (183 + 256 * 202)) := by decide +kernel
end Go.Proofs.Ytecmagenlbnchaa
namespace Go.Proofs.Ytecmagenlbnchaa
set_option maxRecDepth 100000

def vecW : List Nat := [0, 1, 2, 3, 4, 5, 6, 7, 8, 9, 10, 11, 12, 13, 14, 15, 16, 17, 18, 19, 20, 21, 22, 23, 24, 25, 26, 27, 28, 29, 30, 31, 165, 115, 194, 159, 161, 118, 196, 152, 169, 127, 206, 147, 165, 114, 192, 156, 22, 81, 168, 205, 2, 68, 190, 218, 26, 93, 164, 193, 6, 64, 186, 222, 174, 135, 223, 240, 15, 241, 27, 104, 166, 142, 213, 251, 3, 252, 21, 103, 109, 225, 241, 72, 111, 165, 79, 146, 117, 248, 235, 83, 115, 184, 81, 141, 198, 86, 130, 127, 201, 167, 153, 23, 111, 41, 76, 236, 108, 213, 89, 139, 61, 226, 58, 117, 82, 71, 117, 231, 39, 191, 158, 180, 84, 7, 207, 57, 11, 220, 144, 95, 194, 123, 9, 72, 173, 82, 69, 164, 193, 135, 28, 47, 69, 245, 166, 96, 23, 178, 211, 135, 48, 13, 77, 51, 100, 10, 130, 10, 124, 207, 247, 28, 190, 180, 254, 84, 19, 230, 187, 240, 210, 97, 167, 223, 240, 26, 250, 254, 231, 168, 41, 121, 215, 165, 100, 74, 179, 175, 230, 64, 37, 65, 254, 113, 155, 245, 0, 37, 136, 19, 187, 213, 90, 114, 28, 10, 78, 90, 102, 153, 169, 242, 79, 224, 126, 87, 43, 170, 205, 248, 205, 234, 36, 252, 121, 204, 191, 9, 121, 233, 55, 26, 194, 60, 109, 104, 222, 54]
def vecS : List (List Nat) := [[0, 16, 32, 48, 64, 80, 96, 112, 128, 144, 160, 176, 192, 208, 224, 240],
  [79, 99, 118, 6, 67, 224, 170, 133, 239, 167, 33, 50, 1, 164, 231, 5],
  [24, 89, 251, 194, 138, 28, 0, 160, 120, 237, 138, 173, 196, 47, 97, 9],
  [151, 92, 102, 193, 203, 159, 63, 168, 169, 58, 40, 223, 142, 225, 15, 99],
  [28, 5, 242, 113, 164, 23, 224, 79, 249, 33, 197, 193, 4, 112, 21, 84],
  [195, 87, 170, 225, 27, 69, 183, 176, 162, 199, 189, 40, 168, 220, 153, 250],
  [127, 7, 65, 67, 203, 78, 36, 62, 193, 12, 129, 93, 131, 117, 213, 76],
  [214, 83, 164, 105, 108, 160, 188, 15, 90, 202, 171, 93, 185, 108, 94, 125],
  [90, 168, 88, 57, 95, 210, 141, 125, 5, 225, 163, 136, 104, 243, 185, 197],
  [74, 130, 72, 81, 197, 126, 126, 71, 100, 61, 229, 12, 42, 243, 232, 201],
  [193, 73, 7, 246, 202, 59, 58, 160, 112, 233, 170, 49, 59, 82, 181, 236],
  [95, 156, 106, 191, 186, 198, 52, 170, 80, 64, 159, 167, 102, 103, 118, 83],
  [81, 102, 4, 149, 67, 83, 149, 3, 20, 251, 134, 228, 1, 146, 37, 33],
  [98, 123, 206, 185, 153, 157, 90, 170, 201, 69, 236, 244, 35, 245, 109, 165],
  [142, 162, 183, 202, 81, 103, 69, 191, 234, 252, 73, 144, 75, 73, 96, 137]]
def vecR : List (List Nat) := [[99, 83, 224, 140, 9, 96, 225, 4, 205, 112, 183, 81, 186, 202, 208, 231],
  [132, 225, 253, 107, 26, 92, 148, 111, 223, 73, 56, 151, 124, 251, 172, 35],
  [173, 156, 126, 1, 126, 85, 239, 37, 188, 21, 15, 224, 28, 203, 99, 149],
  [136, 219, 52, 251, 31, 128, 118, 120, 211, 248, 51, 194, 25, 74, 117, 158],
  [156, 240, 166, 32, 73, 253, 89, 163, 153, 81, 137, 132, 242, 107, 225, 120],
  [46, 110, 122, 45, 175, 198, 238, 248, 58, 134, 172, 231, 194, 91, 169, 52],
  [210, 47, 12, 41, 31, 254, 3, 26, 120, 157, 131, 178, 236, 197, 54, 76],
  [246, 224, 98, 255, 80, 116, 88, 249, 190, 80, 73, 118, 86, 237, 101, 76],
  [190, 181, 10, 166, 207, 248, 86, 18, 107, 13, 106, 255, 69, 194, 93, 196],
  [214, 243, 217, 221, 166, 39, 155, 209, 67, 13, 82, 160, 229, 19, 243, 254],
  [120, 226, 172, 206, 116, 30, 213, 66, 81, 0, 197, 224, 226, 59, 128, 199],
  [207, 180, 219, 237, 244, 9, 56, 8, 83, 133, 2, 172, 51, 222, 24, 92],
  [209, 237, 68, 253, 26, 15, 63, 42, 250, 79, 242, 123, 124, 51, 42, 105],
  [170, 94, 206, 6, 238, 110, 60, 86, 221, 230, 139, 172, 38, 33, 190, 191]]

theorem vec_next : ∀ i, i < 60 → nextW (fun i => i) vecW i = (vecW.drop (4 * i)).take 4 := by
  have h : (List.range 60).all (fun i => nextW (fun i => i) vecW i == (vecW.drop (4 * i)).take 4) = true := by decide +kernel
  intro i hi
  exact eq_of_beq (List.all_eq_true.1 h i (List.mem_range.2 hi))
theorem nextW_same {key key' : Nat → Nat} {L L' : List Nat} {i : Nat} (hk : ∀ q, q < 32 → key q = key' q) (hL : ∀ q, q < 4 * i → L.getD q 0 = L'.getD q 0) : nextW key L i = nextW key' L' i := by
  by_cases h8 : i < 8
  · rw [nextW_lo _ _ h8, nextW_lo _ _ h8]
    exact List.map_congr_left fun k hk4 => hk _ (by have := List.mem_range.1 hk4; omega)
  · unfold nextW
    rw [if_neg h8, if_neg h8]
    refine List.map_congr_left fun k hk4 => ?_
    have h4 := List.mem_range.1 hk4
    have e : ∀ k, k < 4 → L.getD (4 * (i - 1) + k) 0 = L'.getD (4 * (i - 1) + k) 0 := fun k hk => hL _ (by omega)
    have e0 : L.getD (4 * (i - 8) + k) 0 = L'.getD (4 * (i - 8) + k) 0 := hL _ (by omega)
    simp only [e0, e k h4, e _ (Nat.mod_lt (k + 1) (show 0 < 4 by decide))]
theorem vec_words {key : Nat → Nat} (hk : ∀ q, q < 32 → key q = q) : ∀ i, i ≤ 60 → wordsTo key i = vecW.take (4 * i)
  | 0, _ => rfl
  | i + 1, hi => by
    have ih := vec_words hk i (by omega)
    have e : nextW key (vecW.take (4 * i)) i = (vecW.drop (4 * i)).take 4 := by
      rw [← vec_next i (by omega)]
      refine nextW_same hk fun q hq => ?_
      rw [List.getD_eq_getElem?_getD, List.getD_eq_getElem?_getD, List.getElem?_take_of_lt hq]
    rw [show wordsTo key (i + 1) = wordsTo key i ++ nextW key (wordsTo key i) i from rfl, ih, e, show 4 * (i + 1) = 4 * i + 4 by omega, List.take_add]
theorem vec_wordsOf {key : Nat → Nat} (hk : ∀ q, q < 32 → key q = q) : wordsOf key = vecW := by
  unfold wordsOf
  rw [vec_words hk 60 (Nat.le_refl _)]
  exact List.take_of_length_le (Nat.le_of_eq (by kernel_rfl))
theorem vec_rows : ∀ r, r < 14 → ∀ i, i < 16 → rowsF gbox (byt (vecS.getD r [])) i = byt (vecR.getD r []) i := by
  have h : (List.range 14).all (fun r => (List.range 16).all fun i => rowsF gbox (byt (vecS.getD r [])) i == byt (vecR.getD r []) i) = true := by decide +kernel
  intro r hr i hi
  exact eq_of_beq (List.all_eq_true.1 (List.all_eq_true.1 h r (List.mem_range.2 hr)) i (List.mem_range.2 hi))
theorem vec_cols : ∀ r, r < 14 → ∀ i, i < 16 → addF (byt vecW) (r + 1) (if r + 1 < 14 then colsF 2 3 1 1 (byt (vecR.getD r [])) else byt (vecR.getD r [])) i = byt (vecS.getD (r + 1) []) i := by
  have h : (List.range 14).all (fun r => (List.range 16).all fun i => addF (byt vecW) (r + 1) (if r + 1 < 14 then colsF 2 3 1 1 (byt (vecR.getD r [])) else byt (vecR.getD r [])) i == byt (vecS.getD (r + 1) []) i) = true := by decide +kernel
  intro r hr i hi
  exact eq_of_beq (List.all_eq_true.1 (List.all_eq_true.1 h r (List.mem_range.2 hr)) i (List.mem_range.2 hi))
theorem vec_turn {x : Nat → Nat} (hx : ∀ i, i < 16 → x i = 17 * i) : ∀ r, r ≤ 14 → Same16 (turnTo (byt vecW) x r) (byt (vecS.getD r []))
  | 0, _ => fun i hi => by
    have h : ∀ i, i < 16 → (17 * i) ^^^ byt vecW (16 * 0 + i) = byt (vecS.getD 0 []) i := by decide +kernel
    show x i ^^^ byt vecW (16 * 0 + i) = _
    rw [hx i hi]
    exact h i hi
  | r + 1, hr => by
    have ih := vec_turn hx r (by omega)
    have h1 : Same16 (rowsF gbox (turnTo (byt vecW) x r)) (byt (vecR.getD r [])) := (ih.rows gbox).trans (vec_rows r (by omega))
    have h2 : Same16 (midF (r + 1) (turnTo (byt vecW) x r)) (if r + 1 < 14 then colsF 2 3 1 1 (byt (vecR.getD r [])) else byt (vecR.getD r [])) := by
      unfold midF
      split
      · exact h1.cols _ _ _ _
      · exact h1
    rw [turnTo_succ]
    exact (h2.add _ _).trans (vec_cols r (by omega))
/-- The fixed call's first bytes. -/
theorem vec_any {key x : Nat → Nat} (hk : ∀ q, q < 32 → key q = q) (hx : ∀ i, i < 16 → x i = 17 * i) :
    turnF (byt (wordsOf key)) x 0 = 142 ∧ turnF (byt (wordsOf key)) x 1 = 162 ∧ turnF (byt (wordsOf key)) x 2 = 183 ∧ turnF (byt (wordsOf key)) x 3 = 202 := by
  rw [vec_wordsOf hk]
  have h := vec_turn hx 14 (Nat.le_refl _)
  exact ⟨h 0 (by decide), h 1 (by decide), h 2 (by decide), h 3 (by decide)⟩
end Go.Proofs.Ytecmagenlbnchaa
