/-
  The sum of a text (SHA-256), reckoned in plain numbers. No condition. No program is in sight here.
  Numbers as rows of digits: 'wb f k' is the number of k digits whose digit i is 'f i'; setting and striking a digit. No condition. No program is in sight here.
  The last digit of a number: 'x & -x' is two to its place, and the place stands in the table at (2^k * deBruijn mod 2^64) / 2^58. No condition. No program is in sight here.
-/
import Derived.WalkKit
import Derived.WalkLawsBesides
namespace Go.Proofs.YtjhfoddhpmmjoaaDoor
open Go.RowKit

def M32 : Nat := 4294967296
/-- A word turned down by n digits. -/
def rotr (v n : Nat) : Nat := v / 2 ^ n + v % 2 ^ n * 2 ^ (32 - n)
def sig0 (x : Nat) : Nat := rotr x 7 ^^^ rotr x 18 ^^^ (x / 8)
def sig1 (x : Nat) : Nat := rotr x 17 ^^^ rotr x 19 ^^^ (x / 1024)
def Sig1 (e : Nat) : Nat := rotr e 6 ^^^ rotr e 11 ^^^ rotr e 25
def Sig0 (a : Nat) : Nat := rotr a 2 ^^^ rotr a 13 ^^^ rotr a 22
def cho (e f g : Nat) : Nat := (e &&& f) ^^^ ((4294967295 - e) &&& g)
def maj (a b c : Nat) : Nat := (a &&& b) ^^^ (a &&& c) ^^^ (b &&& c)

def shaH : List Nat := [1779033703, 3144134277, 1013904242, 2773480762, 1359893119, 2600822924, 528734635, 1541459225]
def shaK : List Nat := [
  1116352408, 1899447441, 3049323471, 3921009573, 961987163, 1508970993, 2453635748, 2870763221,
  3624381080, 310598401, 607225278, 1426881987, 1925078388, 2162078206, 2614888103, 3248222580,
  3835390401, 4022224774, 264347078, 604807628, 770255983, 1249150122, 1555081692, 1996064986,
  2554220882, 2821834349, 2952996808, 3210313671, 3336571891, 3584528711, 113926993, 338241895,
  666307205, 773529912, 1294757372, 1396182291, 1695183700, 1986661051, 2177026350, 2456956037,
  2730485921, 2820302411, 3259730800, 3345764771, 3516065817, 3600352804, 4094571909, 275423344,
  430227734, 506948616, 659060556, 883997877, 958139571, 1322822218, 1537002063, 1747873779,
  1955562222, 2024104815, 2227730452, 2361852424, 2428436474, 2756734187, 3204031479, 3329325298]

/-- The number of four bytes. -/
def be32 (b : Nat → Nat) (i : Nat) : Nat := ((b i * 256 + b (i + 1)) * 256 + b (i + 2)) * 256 + b (i + 3)
/-- The next word of the spread, behind words w. -/
def snextW (w : List Nat) : Nat :=
  let i := w.length
  (w.getD (i - 16) 0 + sig0 (w.getD (i - 15) 0) + w.getD (i - 7) 0 + sig1 (w.getD (i - 2) 0)) % M32
def spreadTo (b : Nat → Nat) : Nat → List Nat
  | 0 => (List.range 16).map fun i => be32 b (4 * i)
  | k + 1 => spreadTo b k ++ [snextW (spreadTo b k)]
/-- The sixty-four words of a block. -/
def spread (b : Nat → Nat) : List Nat := spreadTo b 48

/-- One round: eight words, a word of the spread, a number. -/
def round (v : List Nat) (k w : Nat) : List Nat :=
  let t1 := (v.getD 7 0 + Sig1 (v.getD 4 0) + cho (v.getD 4 0) (v.getD 5 0) (v.getD 6 0) + k + w) % M32
  let t2 := (Sig0 (v.getD 0 0) + maj (v.getD 0 0) (v.getD 1 0) (v.getD 2 0)) % M32
  [(t1 + t2) % M32, v.getD 0 0, v.getD 1 0, v.getD 2 0, (v.getD 3 0 + t1) % M32, v.getD 4 0, v.getD 5 0, v.getD 6 0]
def roundsTo (v w : List Nat) : Nat → List Nat
  | 0 => v
  | i + 1 => round (roundsTo v w i) (shaK.getD i 0) (w.getD i 0)
/-- A block into eight words. -/
def press (h : List Nat) (b : Nat → Nat) : List Nat :=
  let v := roundsTo h (spread b) 64
  (List.range 8).map fun i => (h.getD i 0 + v.getD i 0) % M32

theorem length_spreadTo (b : Nat → Nat) : ∀ k, (spreadTo b k).length = 16 + k
  | 0 => by simp [spreadTo]
  | k + 1 => by simp [spreadTo, length_spreadTo b k]; omega
theorem length_spread (b : Nat → Nat) : (spread b).length = 64 := length_spreadTo b 48
theorem length_round (v : List Nat) (k w : Nat) : (round v k w).length = 8 := rfl
theorem length_roundsTo (v w : List Nat) (hv : v.length = 8) : ∀ i, (roundsTo v w i).length = 8
  | 0 => hv
  | _ + 1 => rfl
theorem length_press (h : List Nat) (b : Nat → Nat) : (press h b).length = 8 := by simp [press]

/-- All words are below 2^32. -/
def Small (l : List Nat) : Prop := ∀ x ∈ l, x < M32
theorem Small.get {l : List Nat} (h : Small l) (i : Nat) : l.getD i 0 < M32 := by
  by_cases hi : i < l.length
  · have : l.getD i 0 = l[i] := by simp [List.getD, hi]
    rw [this]; exact h _ (List.getElem_mem hi)
  · have : l.getD i 0 = 0 := by simp [List.getD, Nat.le_of_not_lt hi]
    rw [this]; decide

theorem rotr_lt {v n : Nat} (hv : v < M32) (hn : n ≤ 32) : rotr v n < M32 := by
  unfold rotr
  have hp : 0 < 2 ^ n := Nat.pow_pos (by omega)
  have e : 2 ^ n * 2 ^ (32 - n) = M32 := by rw [← Nat.pow_add, show n + (32 - n) = 32 by omega]; rfl
  have h1 : v / 2 ^ n < 2 ^ (32 - n) := by
    apply Nat.div_lt_of_lt_mul; rw [e]; exact hv
  have h2 : v % 2 ^ n < 2 ^ n := Nat.mod_lt _ hp
  have h3 : (v % 2 ^ n + 1) * 2 ^ (32 - n) ≤ 2 ^ n * 2 ^ (32 - n) := Nat.mul_le_mul_right _ h2
  rw [e, Nat.add_mul] at h3
  omega

theorem xor_lt {a b : Nat} (ha : a < M32) (hb : b < M32) : a ^^^ b < M32 := Nat.xor_lt_two_pow (n := 32) ha hb
theorem and_lt {a b : Nat} (ha : a < M32) : a &&& b < M32 := Nat.lt_of_le_of_lt Nat.and_le_left ha
theorem sig0_lt {x : Nat} (h : x < M32) : sig0 x < M32 := xor_lt (xor_lt (rotr_lt h (by omega)) (rotr_lt h (by omega))) (Nat.lt_of_le_of_lt (Nat.div_le_self _ _) h)
theorem sig1_lt {x : Nat} (h : x < M32) : sig1 x < M32 := xor_lt (xor_lt (rotr_lt h (by omega)) (rotr_lt h (by omega))) (Nat.lt_of_le_of_lt (Nat.div_le_self _ _) h)
theorem Sig0_lt {x : Nat} (h : x < M32) : Sig0 x < M32 := xor_lt (xor_lt (rotr_lt h (by omega)) (rotr_lt h (by omega))) (rotr_lt h (by omega))
theorem Sig1_lt {x : Nat} (h : x < M32) : Sig1 x < M32 := xor_lt (xor_lt (rotr_lt h (by omega)) (rotr_lt h (by omega))) (rotr_lt h (by omega))
theorem cho_lt {e f g : Nat} (he : e < M32) : cho e f g < M32 := xor_lt (and_lt he) (and_lt (Nat.lt_of_le_of_lt (Nat.sub_le _ _) (by decide)))
theorem maj_lt {a b c : Nat} (ha : a < M32) (hb : b < M32) : maj a b c < M32 := xor_lt (xor_lt (and_lt ha) (and_lt ha)) (and_lt hb)
theorem nextW_lt (w : List Nat) : snextW w < M32 := Nat.mod_lt _ (by decide)
theorem be32_lt {b : Nat → Nat} (hb : ∀ i, b i < 256) (i : Nat) : be32 b i < M32 := by
  have h0 := hb i; have h1 := hb (i + 1); have h2 := hb (i + 2); have h3 := hb (i + 3)
  unfold be32 M32; omega
theorem small_spreadTo {b : Nat → Nat} (hb : ∀ i, b i < 256) : ∀ k, Small (spreadTo b k)
  | 0 => by
    intro x hx
    simp only [spreadTo, List.mem_map] at hx
    obtain ⟨i, _, rfl⟩ := hx
    exact be32_lt hb _
  | k + 1 => by
    intro x hx
    simp only [spreadTo, List.mem_append, List.mem_singleton] at hx
    rcases hx with hx | rfl
    · exact small_spreadTo hb k x hx
    · exact nextW_lt _
theorem small_shaH : Small shaH := by intro x hx; revert x; decide
theorem small_shaK : Small shaK := by intro x hx; revert x; decide
theorem small_round {v : List Nat} (hv : Small v) (k w : Nat) : Small (round v k w) := by
  intro x hx
  simp only [round, List.mem_cons, List.not_mem_nil, or_false] at hx
  rcases hx with rfl | rfl | rfl | rfl | rfl | rfl | rfl | rfl
  all_goals first | exact hv.get _ | exact Nat.mod_lt _ (by decide)
theorem small_roundsTo {v w : List Nat} (hv : Small v) : ∀ i, Small (roundsTo v w i)
  | 0 => hv
  | i + 1 => small_round (small_roundsTo hv i) _ _
theorem small_press (h : List Nat) (b : Nat → Nat) : Small (press h b) := by
  intro x hx
  simp only [press, List.mem_map] at hx
  obtain ⟨i, _, rfl⟩ := hx
  exact Nat.mod_lt _ (by decide)

/-- The k-th word of the spread. -/
def spr (b : Nat → Nat) (k : Nat) : Nat := (spread b).getD k 0

theorem getD_left {l m : List Nat} {j : Nat} (h : j < l.length) : (l ++ m).getD j 0 = l.getD j 0 := by
  simp [List.getD, List.getElem?_append_left h]
theorem getD_right {l m : List Nat} {j : Nat} (h : l.length ≤ j) : (l ++ m).getD j 0 = m.getD (j - l.length) 0 := by
  simp [List.getD, List.getElem?_append_right h]
theorem spreadTo_get (b : Nat → Nat) (j : Nat) : ∀ k m, j < 16 + k → (spreadTo b (k + m)).getD j 0 = (spreadTo b k).getD j 0
  | k, 0, _ => rfl
  | k, m + 1, h => by
    have h1 := length_spreadTo b (k + m)
    rw [← Nat.add_assoc]
    simp only [spreadTo]
    rw [getD_left (by omega)]
    exact spreadTo_get b j k m h
theorem spr_eq (b : Nat → Nat) {j k : Nat} (hk : k ≤ 48) (hj : j < 16 + k) : (spreadTo b k).getD j 0 = spr b j := by
  have := spreadTo_get b j k (48 - k) hj
  rw [show k + (48 - k) = 48 by omega] at this
  exact this.symm
theorem spr_head (b : Nat → Nat) {k : Nat} (hk : k < 16) : spr b k = be32 b (4 * k) := by
  rw [← spr_eq b (k := 0) (by omega) (by omega)]
  simp [spreadTo, List.getD, hk]
theorem spr_next (b : Nat → Nat) {k : Nat} (h1 : 16 ≤ k) (h2 : k < 64) : spr b k = (spr b (k - 16) + sig0 (spr b (k - 15)) + spr b (k - 7) + sig1 (spr b (k - 2))) % M32 := by
  have hl := length_spreadTo b (k - 16)
  rw [← spr_eq b (k := k - 16 + 1) (by omega) (by omega)]
  simp only [spreadTo]
  rw [getD_right (by omega), hl, show k - (16 + (k - 16)) = 0 by omega]
  simp only [List.getD_cons_zero, snextW, hl]
  rw [show 16 + (k - 16) = k by omega, spr_eq b (by omega) (by omega), spr_eq b (by omega) (by omega), spr_eq b (by omega) (by omega), spr_eq b (by omega) (by omega)]
theorem spr_lt {b : Nat → Nat} (hb : ∀ i, b i < 256) (k : Nat) : spr b k < M32 := (small_spreadTo hb 48).get k

/-- The array of the spread, as far as it has come. -/
def sprTo (b : Nat → Nat) (k : Nat) : List Nat := (List.range 64).map fun j => if j < k then spr b j else 0
theorem length_sprTo (b : Nat → Nat) (k : Nat) : (sprTo b k).length = 64 := by simp [sprTo]
theorem sprTo_get (b : Nat → Nat) {k j : Nat} (hj : j < 64) (hk : j < k) : (sprTo b k)[j]? = some (spr b j) := by simp [sprTo, hj, hk]
theorem sprTo_set (b : Nat → Nat) {k : Nat} : (sprTo b k).set k (spr b k) = sprTo b (k + 1) := by
  apply List.ext_getElem
  · simp [sprTo]
  · intro j h1 h2
    simp only [sprTo, List.getElem_set, List.getElem_map, List.getElem_range]
    by_cases e : k = j
    · subst e; simp
    · rw [if_neg e]
      by_cases hj : j < k
      · rw [if_pos hj, if_pos (by omega)]
      · rw [if_neg hj, if_neg (by omega)]
theorem sprTo_zero (b : Nat → Nat) : sprTo b 0 = List.replicate 64 0 := by
  apply List.ext_getElem
  · simp [sprTo]
  · intro j h1 h2
    rw [List.getElem_replicate]
    simp only [sprTo, List.getElem_map, List.getElem_range]
    rw [if_neg (by omega)]
theorem sprTo_full (b : Nat → Nat) : sprTo b 64 = spread b := by
  apply List.ext_getElem
  · simp [sprTo, length_spread]
  · intro j h1 h2
    have hj : j < 64 := by simpa [sprTo] using h1
    simp [sprTo, hj, spr, List.getD, h2]

/-! ### The walk's spelling -/
theorem wrap32_nat (x : Nat) : IntKind.u32.wrap (x : Int) = ((x % M32 : Nat) : Int) := by rw [IntKind.wrap_u32']; unfold M32; omega
theorem wrap32_add (a b : Nat) : IntKind.u32.wrap ((a : Int) + (b : Int)) = (((a + b) % M32 : Nat) : Int) := by
  rw [← Int.natCast_add]; exact wrap32_nat _

theorem walk_xor {a b : Nat} (ha : a < M32) (hb : b < M32) : bits .xor .u32 (a : Int) (b : Int) = ((a ^^^ b : Nat) : Int) := u32_xor_nat _ _ ha hb
theorem walk_and {a b : Nat} (ha : a < M32) (hb : b < M32) : bits .and .u32 (a : Int) (b : Int) = ((a &&& b : Nat) : Int) := u32_and_nat _ _ ha hb
theorem walk_sig0 {p : Nat} (h : p < M32) : bits .xor .u32 (bits .xor .u32 (rotr p 7 : Int) (rotr p 18 : Int)) ((p : Int) / 8) = (sig0 p : Int) := by
  have h1 := rotr_lt (n := 7) h (by omega)
  have h2 := rotr_lt (n := 18) h (by omega)
  rw [walk_xor h1 h2, show ((p : Int) / 8) = ((p / 8 : Nat) : Int) by simp, walk_xor (xor_lt h1 h2) (Nat.lt_of_le_of_lt (Nat.div_le_self _ _) h)]
  rfl
theorem walk_sig1 {p : Nat} (h : p < M32) : bits .xor .u32 (bits .xor .u32 (rotr p 17 : Int) (rotr p 19 : Int)) ((p : Int) / 1024) = (sig1 p : Int) := by
  have h1 := rotr_lt (n := 17) h (by omega)
  have h2 := rotr_lt (n := 19) h (by omega)
  rw [walk_xor h1 h2, show ((p : Int) / 1024) = ((p / 1024 : Nat) : Int) by simp, walk_xor (xor_lt h1 h2) (Nat.lt_of_le_of_lt (Nat.div_le_self _ _) h)]
  rfl

theorem walk_not {e : Nat} (he : e < M32) : bits .xor .u32 IntKind.u32.max (e : Int) = ((4294967295 - e : Nat) : Int) := by
  rw [show IntKind.u32.max = ((4294967295 : Nat) : Int) by simp [IntKind.max, IntKind.signed, IntKind.bits], walk_xor (by decide) he]
  congr 1
  apply Nat.eq_of_testBit_eq
  intro i
  have h1 : (4294967295 : Nat).testBit i = decide (i < 32) := Nat.testBit_two_pow_sub_one 32 i
  have hm : (4294967295 - e).testBit i = (decide (i < 32) && !e.testBit i) := by
    have := Nat.testBit_two_pow_sub_succ (n := 32) (x := e) he i
    rwa [show 2 ^ 32 - (e + 1) = 4294967295 - e by omega] at this
  rw [Nat.testBit_xor, h1, hm]
  by_cases hi : i < 32
  · simp [hi]
  · have : e.testBit i = false := Nat.testBit_lt_two_pow (Nat.lt_of_lt_of_le he (show 2 ^ 32 ≤ 2 ^ i from Nat.pow_le_pow_right (by omega) (by omega)))
    simp [hi, this]
theorem walk_not' {e : Nat} (he : e < M32) : bits .xor .u32 (if IntKind.u32.signed = true then -1 else IntKind.u32.max) (e : Int) = ((4294967295 - e : Nat) : Int) := walk_not he

end Go.Proofs.YtjhfoddhpmmjoaaDoor
namespace Go.Proofs.YtjhfoddhpmmjoaaDoor
open Go.RowKit

/-- The number whose digit i (i < k) is 'f i'. -/
def wb (f : Nat → Bool) : Nat → Nat
  | 0 => 0
  | k + 1 => wb f k + if f k then 2 ^ k else 0

theorem wb_lt (f : Nat → Bool) : ∀ k, wb f k < 2 ^ k
  | 0 => by simp [wb]
  | k + 1 => by
    have := wb_lt f k
    simp only [wb, Nat.pow_succ]
    split <;> omega

theorem wb_testBit (f : Nat → Bool) (i : Nat) : ∀ k, (wb f k).testBit i = (decide (i < k) && f i)
  | 0 => by simp [wb]
  | k + 1 => by
    have hl := wb_lt f k
    have ih := wb_testBit f i k
    simp only [wb]
    by_cases hk : f k = true
    · rw [if_pos hk, Nat.add_comm]
      by_cases hi : i = k
      · subst hi
        rw [Nat.testBit_two_pow_add_eq, ih]
        simp [hk]
      · by_cases hlt : i < k
        · rw [Nat.testBit_two_pow_add_gt hlt, ih]
          simp [hlt, Nat.lt_succ_of_lt hlt]
        · have h1 : ¬ i < k + 1 := by omega
          simp only [h1, decide_false, Bool.false_and]
          have h2 : 2 ^ k + wb f k < 2 ^ i := by
            have : 2 ^ (k + 1) ≤ 2 ^ i := Nat.pow_le_pow_right (by omega) (by omega)
            rw [Nat.pow_succ] at this
            omega
          exact Nat.testBit_lt_two_pow h2
    · rw [if_neg hk, Nat.add_zero, ih]
      by_cases hi : i = k
      · subst hi; simp [hk]
      · by_cases hlt : i < k
        · simp [hlt, Nat.lt_succ_of_lt hlt]
        · have h1 : ¬ i < k + 1 := by omega
          simp [h1, hlt]

/-- Word j of a row that has 'L' : its digit i is set where place 64 j + i is held. -/
def wordOf (L : Nat → Nat) (j : Nat) : Nat := wb (fun i => decide (0 < L (64 * j + i))) 64

theorem wordOf_lt (L : Nat → Nat) (j : Nat) : wordOf L j < 18446744073709551616 := wb_lt _ 64

theorem wordOf_testBit (L : Nat → Nat) (j i : Nat) : (wordOf L j).testBit i = (decide (i < 64) && decide (0 < L (64 * j + i))) := wb_testBit _ i 64

theorem wordOf_congr {L L' : Nat → Nat} {j : Nat} (h : ∀ i, i < 64 → (0 < L (64 * j + i) ↔ 0 < L' (64 * j + i))) : wordOf L j = wordOf L' j := by
  apply Nat.eq_of_testBit_eq
  intro i
  rw [wordOf_testBit, wordOf_testBit]
  by_cases hi : i < 64
  · simp [hi, h i hi]
  · simp [hi]

/-- Digit i of a word, as the program asks for it. -/
theorem shr_and_nat (x s : Nat) (hx : x < 18446744073709551616) : bits .and .u64 ((x : Int) / (2 : Int) ^ s) 1 = ((x / 2 ^ s % 2 : Nat) : Int) := by
  have e : ((x : Int) / (2 : Int) ^ s) = ((x / 2 ^ s : Nat) : Int) := by simp
  have h1 : x / 2 ^ s < 18446744073709551616 := Nat.lt_of_le_of_lt (Nat.div_le_self _ _) hx
  rw [e, show (1 : Int) = ((1 : Nat) : Int) from rfl, u64_and_nat _ _ h1 (by decide), nat_mask1]

theorem testBit_div (x s : Nat) : x.testBit s = decide (x / 2 ^ s % 2 = 1) := by
  rw [Nat.testBit_eq_decide_div_mod_eq]

theorem ask_held {L : Nat → Nat} {i : Nat} (h : 0 < L i) : (bits .and .u64 ((wordOf L (i / 64) : Int) / (2 : Int) ^ (i % 64)) 1 == 0) = false := by
  have ht : (wordOf L (i / 64)).testBit (i % 64) = true := by
    rw [wordOf_testBit, show 64 * (i / 64) + i % 64 = i from Nat.div_add_mod i 64]
    simp [h, Nat.mod_lt]
  rw [testBit_div, decide_eq_true_eq] at ht
  rw [shr_and_nat _ _ (wordOf_lt L _), ht]
  rfl

theorem ask_free {L : Nat → Nat} {i : Nat} (h : L i = 0) : (bits .and .u64 ((wordOf L (i / 64) : Int) / (2 : Int) ^ (i % 64)) 1 == 0) = true := by
  have ht : (wordOf L (i / 64)).testBit (i % 64) = false := by
    rw [wordOf_testBit, show 64 * (i / 64) + i % 64 = i from Nat.div_add_mod i 64]
    simp [h]
  rw [testBit_div, decide_eq_false_iff_not] at ht
  have h0 : wordOf L (i / 64) / 2 ^ (i % 64) % 2 = 0 := by omega
  rw [shr_and_nat _ _ (wordOf_lt L _), h0]
  rfl

/-- L, but v at place i. -/
def up (L : Nat → Nat) (i v : Nat) : Nat → Nat := fun k => if k = i then v else L k
theorem up_same (L : Nat → Nat) (i v : Nat) : up L i v i = v := if_pos rfl
theorem up_other (L : Nat → Nat) {i k : Nat} (v : Nat) (h : k ≠ i) : up L i v k = L k := if_neg h

theorem wordOf_up_other (L : Nat → Nat) {i j : Nat} (v : Nat) (h : j ≠ i / 64) : wordOf (up L i v) j = wordOf L j :=
  wordOf_congr fun k hk => by rw [up_other]; omega

theorem wordOf_up_like (L : Nat → Nat) {i v : Nat} (j : Nat) (h : 0 < v ↔ 0 < L i) : wordOf (up L i v) j = wordOf L j :=
  wordOf_congr fun k _ => by
    by_cases e : 64 * j + k = i
    · rw [e, up_same]; exact h
    · rw [up_other _ _ e]

theorem two_pow_wrap (s : Nat) (h : s < 64) : IntKind.u64.wrap ((2 : Int) ^ s) = ((2 ^ s : Nat) : Int) := by
  have h1 : 2 ^ s < 2 ^ 64 := Nat.pow_lt_pow_right (by omega) h
  rw [IntKind.wrap_u64]
  have e : ((2 : Int) ^ s) = ((2 ^ s : Nat) : Int) := by simp
  rw [e]
  have h2 : 2 ^ s < 18446744073709551616 := h1
  generalize 2 ^ s = y at h2 ⊢
  omega

theorem set_digit {L : Nat → Nat} {i v : Nat} (hv : 0 < v) : bits .or .u64 (wordOf L (i / 64) : Int) (IntKind.u64.wrap ((2 : Int) ^ (i % 64))) = (wordOf (up L i v) (i / 64) : Int) := by
  have hs : i % 64 < 64 := Nat.mod_lt _ (by omega)
  have h1 : 2 ^ (i % 64) < 18446744073709551616 := Nat.pow_lt_pow_right (n := 64) (by omega) hs
  rw [two_pow_wrap _ hs, u64_or_nat _ _ (wordOf_lt L _) h1]
  congr 1
  apply Nat.eq_of_testBit_eq
  intro k
  rw [Nat.testBit_or, wordOf_testBit, wordOf_testBit, Nat.testBit_two_pow]
  have hd := Nat.div_add_mod i 64
  by_cases e : i % 64 = k
  · subst e
    rw [hd, up_same]
    simp [hs, hv]
  · have e2 : 64 * (i / 64) + k ≠ i := by omega
    rw [up_other _ _ e2]
    simp [e]

theorem strike_digit {L : Nat → Nat} {i : Nat} : bits .andNot .u64 (wordOf L (i / 64) : Int) (IntKind.u64.wrap ((2 : Int) ^ (i % 64))) = (wordOf (up L i 0) (i / 64) : Int) := by
  have hs : i % 64 < 64 := Nat.mod_lt _ (by omega)
  have h1 : 2 ^ (i % 64) < 18446744073709551616 := Nat.pow_lt_pow_right (n := 64) (by omega) hs
  rw [two_pow_wrap _ hs, u64_andNot_nat _ _ (wordOf_lt L _) h1]
  congr 1
  apply Nat.eq_of_testBit_eq
  intro k
  rw [Nat.testBit_and, wordOf_testBit, wordOf_testBit]
  have hm : (18446744073709551615 - 2 ^ (i % 64)).testBit k = (decide (k < 64) && !(2 ^ (i % 64)).testBit k) := by
    have := Nat.testBit_two_pow_sub_succ (n := 64) h1 k
    rwa [show 2 ^ 64 - (2 ^ (i % 64) + 1) = 18446744073709551615 - 2 ^ (i % 64) by omega] at this
  rw [hm, Nat.testBit_two_pow]
  have hd := Nat.div_add_mod i 64
  by_cases e : i % 64 = k
  · subst e
    rw [hd, up_same]
    simp
  · have e2 : 64 * (i / 64) + k ≠ i := by omega
    rw [up_other _ _ e2]
    simp [e]
    by_cases hk : k < 64 <;> simp [hk]

end Go.Proofs.YtjhfoddhpmmjoaaDoor
namespace Go.Proofs.YtjhfoddhpmmjoaaDoor
open Go.RowKit

/-- k is the place of x's last digit. -/
def LastDigit (x k : Nat) : Prop := k < 64 ∧ x.testBit k = true ∧ ∀ j, j < k → x.testBit j = false

theorem lastDigit_ex {x : Nat} (h0 : 0 < x) (h1 : x < 18446744073709551616) : ∃ k, LastDigit x k := by
  have hex : ∃ k, x.testBit k = true := Nat.exists_testBit_of_ne_zero (by omega)
  have key : ∀ n, (∃ k, k < n ∧ x.testBit k = true) → ∃ k, k < n ∧ x.testBit k = true ∧ ∀ j, j < k → x.testBit j = false := by
    intro n
    induction n with
    | zero => rintro ⟨k, hk, _⟩; omega
    | succ n ih =>
      rintro ⟨k, hk, hx⟩
      by_cases hb : ∃ k, k < n ∧ x.testBit k = true
      · obtain ⟨k', h1, h2⟩ := ih hb; exact ⟨k', by omega, h2⟩
      · have hkn : k = n := by
          by_cases e : k = n
          · exact e
          · exact absurd ⟨k, by omega, hx⟩ hb
        subst hkn
        refine ⟨k, hk, hx, fun j hj => ?_⟩
        cases hjx : x.testBit j with
        | false => rfl
        | true => exact absurd ⟨j, hj, hjx⟩ hb
  obtain ⟨k, hk⟩ := hex
  have hk64 : k < 64 := by
    by_cases e : k < 64
    · exact e
    · have : x.testBit k = false := Nat.testBit_lt_two_pow (Nat.lt_of_lt_of_le h1 (show (2:Nat) ^ 64 ≤ 2 ^ k from Nat.pow_le_pow_right (by omega) (by omega)))
      rw [this] at hk; cases hk
  obtain ⟨j, h1, h2, h3⟩ := key 64 ⟨k, hk64, hk⟩
  exact ⟨j, h1, h2, h3⟩

theorem and_neg {x k : Nat} (h : LastDigit x k) (h1 : x < 18446744073709551616) : x &&& (18446744073709551616 - x) = 2 ^ k := by
  obtain ⟨hk, hx, hlow⟩ := h
  have hge : 2 ^ k ≤ x := Nat.ge_two_pow_of_testBit hx
  have hpos : 0 < 2 ^ k := Nat.pow_pos (by omega)
  -- x = 2^(k+1) q + 2^k
  have hxq : x = 2 ^ (k + 1) * (x / 2 ^ (k + 1)) + 2 ^ k := by
    have h2 := Nat.div_add_mod x (2 ^ (k + 1))
    have h3 : x % 2 ^ (k + 1) = 2 ^ k := by
      apply Nat.eq_of_testBit_eq
      intro i
      rw [Nat.testBit_mod_two_pow, Nat.testBit_two_pow]
      by_cases e : k = i
      · subst e; simp [hx]
      · by_cases hi : i < k + 1
        · rw [hlow i (by omega)]; simp [e]
        · simp [e, hi]
    omega
  have hx1 : x - 1 = 2 ^ (k + 1) * (x / 2 ^ (k + 1)) + (2 ^ k - 1) := by omega
  have hlt : 2 ^ k - 1 < 2 ^ (k + 1) := by rw [Nat.pow_succ]; omega
  apply Nat.eq_of_testBit_eq
  intro i
  have hc : (18446744073709551616 - x).testBit i = (decide (i < 64) && !(x - 1).testBit i) := by
    have := Nat.testBit_two_pow_sub_succ (n := 64) (x := x - 1) (by omega) i
    rwa [show 2 ^ 64 - (x - 1 + 1) = 18446744073709551616 - x by omega] at this
  rw [Nat.testBit_and, hc, Nat.testBit_two_pow]
  rw [hx1, Nat.testBit_two_pow_mul_add _ hlt]
  by_cases e : k = i
  · subst e
    rw [if_pos (by omega), Nat.testBit_two_pow_sub_one]
    simp [hx, hk]
  · by_cases hi : i < k
    · rw [hlow i hi]; simp [e]
    · rw [if_neg (by omega)]
      have h4 : (x / 2 ^ (k + 1)).testBit (i - (k + 1)) = x.testBit i := by
        rw [Nat.testBit_div_two_pow, show i - (k + 1) + (k + 1) = i by omega]
      rw [h4]
      cases x.testBit i <;> simp [e]

/-- The table, as the row lists it. -/
def tzTab : List Nat := [0, 1, 56, 2, 57, 49, 28, 3, 61, 58, 42, 50, 38, 29, 17, 4, 62, 47, 59, 36, 45, 43, 51, 22, 53, 39, 33, 30, 24, 18, 12, 5, 63, 55, 48, 27, 60, 41, 37, 16, 46, 35, 44, 21, 52, 32, 23, 11, 54, 26, 40, 15, 34, 20, 31, 10, 25, 14, 19, 9, 13, 8, 7, 6]

def tzIdx (k : Nat) : Nat := 2 ^ k * 285870213051353865 % 18446744073709551616 / 288230376151711744

theorem tz_table : ∀ k, k < 64 → tzIdx k < 64 ∧ tzTab[tzIdx k]? = some k := by decide +kernel

theorem tz_place {x k : Nat} (h : LastDigit x k) (h1 : x < 18446744073709551616) :
    IntKind.u64.wrap (bits .and .u64 (x : Int) (IntKind.u64.wrap (-(x : Int))) * 285870213051353865) / 288230376151711744 = (tzIdx k : Int) := by
  have hx0 : 0 < x := by
    have := Nat.ge_two_pow_of_testBit h.2.1
    have hpos : 0 < 2 ^ k := Nat.pow_pos (by omega)
    omega
  have e1 : IntKind.u64.wrap (-(x : Int)) = ((18446744073709551616 - x : Nat) : Int) := by
    rw [IntKind.wrap_u64]; omega
  rw [e1, u64_and_nat _ _ h1 (by omega), and_neg h h1, IntKind.wrap_u64]
  unfold tzIdx
  simp

/-! ### The free places of a word, from a digit on -/
def freeW (L : Nat → Nat) (k s : Nat) : Nat := wb (fun i => decide (s ≤ i) && decide (L (64 * k + i) = 0)) 64
theorem freeW_lt (L : Nat → Nat) (k s : Nat) : freeW L k s < 18446744073709551616 := wb_lt _ 64
theorem freeW_testBit (L : Nat → Nat) (k s i : Nat) : (freeW L k s).testBit i = (decide (i < 64) && (decide (s ≤ i) && decide (L (64 * k + i) = 0))) := wb_testBit _ i 64

theorem xor_word (L : Nat → Nat) (k : Nat) : bits .xor .u64 IntKind.u64.max (wordOf L k : Int) = (freeW L k 0 : Int) := by
  rw [show IntKind.u64.max = ((18446744073709551615 : Nat) : Int) by simp [IntKind.max, IntKind.signed, IntKind.bits], u64_xor_nat _ _ (by decide) (wordOf_lt L k)]
  congr 1
  apply Nat.eq_of_testBit_eq
  intro i
  have h1 : (18446744073709551615 : Nat).testBit i = decide (i < 64) := Nat.testBit_two_pow_sub_one 64 i
  rw [Nat.testBit_xor, h1, wordOf_testBit, freeW_testBit]
  by_cases hi : i < 64
  · by_cases h0 : L (64 * k + i) = 0
    · simp [hi, h0]
    · simp [hi, h0, Nat.pos_of_ne_zero h0]
  · simp [hi]

theorem xor_word' (L : Nat → Nat) (k : Nat) : bits .xor .u64 (if IntKind.u64.signed = true then -1 else IntKind.u64.max) (wordOf L k : Int) = (freeW L k 0 : Int) := xor_word L k

theorem mask_word (L : Nat → Nat) (k s : Nat) (hs : s < 64) : bits .and .u64 (freeW L k 0 : Int) (IntKind.u64.wrap (18446744073709551615 * (2 : Int) ^ s)) = (freeW L k s : Int) := by
  have h2 : 2 ^ s < 18446744073709551616 := Nat.pow_lt_pow_right (n := 64) (by omega) hs
  have hp : 0 < 2 ^ s := Nat.pow_pos (by omega)
  have e : IntKind.u64.wrap (18446744073709551615 * (2 : Int) ^ s) = ((18446744073709551616 - 2 ^ s : Nat) : Int) := by
    rw [IntKind.wrap_u64]
    have e : ((2 : Int) ^ s) = ((2 ^ s : Nat) : Int) := by simp
    rw [e]
    generalize 2 ^ s = y at h2 hp ⊢
    omega
  rw [e, u64_and_nat _ _ (freeW_lt L k 0) (by omega)]
  congr 1
  apply Nat.eq_of_testBit_eq
  intro i
  have hc : (18446744073709551616 - 2 ^ s).testBit i = (decide (i < 64) && !(2 ^ s - 1).testBit i) := by
    have := Nat.testBit_two_pow_sub_succ (n := 64) (x := 2 ^ s - 1) (by omega) i
    rwa [show 2 ^ 64 - (2 ^ s - 1 + 1) = 18446744073709551616 - 2 ^ s by omega] at this
  rw [Nat.testBit_and, hc, freeW_testBit, freeW_testBit, Nat.testBit_two_pow_sub_one]
  by_cases hi : i < 64
  · by_cases hsi : s ≤ i
    · simp [hi, hsi, Nat.not_lt.2 hsi]
    · simp [hi, hsi, Nat.lt_of_not_le hsi]
  · simp [hi]

theorem freeW_zero {L : Nat → Nat} {k s : Nat} (h : freeW L k s = 0) (i : Nat) (hi : i < 64) (hs : s ≤ i) : L (64 * k + i) ≠ 0 := by
  intro h0
  have := freeW_testBit L k s i
  rw [h] at this
  simp [hi, hs, h0] at this

theorem freeW_last {L : Nat → Nat} {k s j : Nat} (h : LastDigit (freeW L k s) j) : s ≤ j ∧ L (64 * k + j) = 0 ∧ ∀ i, s ≤ i → i < j → L (64 * k + i) ≠ 0 := by
  obtain ⟨h1, h2, h3⟩ := h
  rw [freeW_testBit] at h2
  simp [h1] at h2
  refine ⟨h2.1, h2.2, fun i hs hi h0 => ?_⟩
  have := h3 i hi
  rw [freeW_testBit] at this
  simp [show i < 64 by omega, hs, h0] at this

/-- What is told of the first free place from f on, of n places. -/
def FirstFree (L : Nat → Nat) (n f : Nat) : Option Nat → Prop
  | some j => f ≤ j ∧ j < n ∧ L j = 0 ∧ ∀ i, f ≤ i → i < j → L i ≠ 0
  | .none => ∀ i, f ≤ i → i < n → L i ≠ 0

theorem FirstFree.eq {L : Nat → Nat} {n f : Nat} {r s : Option Nat} (h : FirstFree L n f r) (k : FirstFree L n f s) : r = s := by
  cases r with
  | none => cases s with
    | none => rfl
    | some j => exact absurd k.2.2.1 (h j k.1 k.2.1)
  | some i => cases s with
    | none => exact absurd h.2.2.1 (k i h.1 h.2.1)
    | some j =>
      obtain ⟨a1, a2, a3, a4⟩ := h
      obtain ⟨b1, b2, b3, b4⟩ := k
      have : i = j := by
        rcases Nat.lt_trichotomy i j with h | h | h
        · exact absurd a3 (b4 i a1 h)
        · exact h
        · exact absurd b3 (a4 j b1 h)
      rw [this]

/-- All places from f on below m are held. -/
def Held (L : Nat → Nat) (f m : Nat) : Prop := ∀ i, f ≤ i → i < m → L i ≠ 0

/-- The digits from s on of word k are the places from f on. -/
def Start (f k s : Nat) : Prop := ∀ i, i < 64 → (s ≤ i ↔ f ≤ 64 * k + i)

theorem start_first (f : Nat) : Start f (f / 64) (f % 64) := fun i _ => by omega
theorem start_later {f k : Nat} (h : f / 64 < k) : Start f k 0 := fun i _ => by omega

theorem Held.next {L : Nat → Nat} {f k s : Nat} (h : Held L f (64 * k)) (hs : Start f k s) (hz : freeW L k s = 0) : Held L f (64 * (k + 1)) := by
  intro i h1 h2
  by_cases hi : i < 64 * k
  · exact h i h1 hi
  · have := freeW_zero hz (i - 64 * k) (by omega) ((hs _ (by omega)).2 (by omega))
    rwa [show 64 * k + (i - 64 * k) = i by omega] at this

theorem Held.found {L : Nat → Nat} {f k s j : Nat} (h : Held L f (64 * k)) (hs : Start f k s) (hz : LastDigit (freeW L k s) j) :
    f ≤ 64 * k + j ∧ L (64 * k + j) = 0 ∧ Held L f (64 * k + j) := by
  obtain ⟨h1, h2, h3⟩ := freeW_last hz
  refine ⟨(hs j hz.1).1 h1, h2, fun i a b => ?_⟩
  by_cases hi : i < 64 * k
  · exact h i a hi
  · have hj := hz.1
    have := h3 (i - 64 * k) ((hs _ (by omega)).2 (by omega)) (by omega)
    rwa [show 64 * k + (i - 64 * k) = i by omega] at this

/-- What is told when a free place was found in word k. -/
theorem Held.tell {L : Nat → Nat} {n f k s j : Nat} (h : Held L f (64 * k)) (hs : Start f k s) (hz : LastDigit (freeW L k s) j) :
    FirstFree L n f (if 64 * k + j < n then some (64 * k + j) else .none) := by
  obtain ⟨h1, h2, h3⟩ := h.found hs hz
  split
  · rename_i hn
    exact ⟨h1, hn, h2, h3⟩
  · exact fun i a b => h3 i a (by omega)

theorem tzTab_get {i v : Nat} (h : tzTab[i]? = some v) : (tzTab.map fun (n : Nat) => (n : Int)).getD i 0 = (v : Int) := by
  simp [h]

end Go.Proofs.YtjhfoddhpmmjoaaDoor
