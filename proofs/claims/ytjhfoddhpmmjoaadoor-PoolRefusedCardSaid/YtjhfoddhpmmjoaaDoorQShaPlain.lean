/-
  The sum of a text (SHA-256), reckoned in plain numbers. No condition. No program is in sight here.
-/
import Derived.WalkKit
import Derived.WalkLawsBesides
namespace Go.Proofs.YtjhfoddhpmmjoaaDoor
open Go.RowKit

def M32 : Nat := 4294967296
/-- A word turned down by n digits. -/
def rotr (v n : Nat) : Nat := v / 2 ^ n + v % 2 ^ n * 2 ^ (32 - n)
def sig0 (x : Nat) : Nat := rotr x 7 ^^^ rotr x 18 ^^^ (x / 8)
def sig1 (x : Nat) : Nat := rotr x 17 ^^^ rotr x 19 ^^^ (x / 1024)
def Sig1 (e : Nat) : Nat := rotr e 6 ^^^ rotr e 11 ^^^ rotr e 25
def Sig0 (a : Nat) : Nat := rotr a 2 ^^^ rotr a 13 ^^^ rotr a 22
def cho (e f g : Nat) : Nat := (e &&& f) ^^^ ((4294967295 - e) &&& g)
def maj (a b c : Nat) : Nat := (a &&& b) ^^^ (a &&& c) ^^^ (b &&& c)

def shaH : List Nat := [1779033703, 3144134277, 1013904242, 2773480762, 1359893119, 2600822924, 528734635, 1541459225]
def shaK : List Nat := [
  1116352408, 1899447441, 3049323471, 3921009573, 961987163, 1508970993, 2453635748, 2870763221,
  3624381080, 310598401, 607225278, 1426881987, 1925078388, 2162078206, 2614888103, 3248222580,
  3835390401, 4022224774, 264347078, 604807628, 770255983, 1249150122, 1555081692, 1996064986,
  2554220882, 2821834349, 2952996808, 3210313671, 3336571891, 3584528711, 113926993, 338241895,
  666307205, 773529912, 1294757372, 1396182291, 1695183700, 1986661051, 2177026350, 2456956037,
  2730485921, 2820302411, 3259730800, 3345764771, 3516065817, 3600352804, 4094571909, 275423344,
  430227734, 506948616, 659060556, 883997877, 958139571, 1322822218, 1537002063, 1747873779,
  1955562222, 2024104815, 2227730452, 2361852424, 2428436474, 2756734187, 3204031479, 3329325298]

/-- The number of four bytes. -/
def be32 (b : Nat → Nat) (i : Nat) : Nat := ((b i * 256 + b (i + 1)) * 256 + b (i + 2)) * 256 + b (i + 3)
/-- The next word of the spread, behind words w. -/
def snextW (w : List Nat) : Nat :=
  let i := w.length
  (w.getD (i - 16) 0 + sig0 (w.getD (i - 15) 0) + w.getD (i - 7) 0 + sig1 (w.getD (i - 2) 0)) % M32
def spreadTo (b : Nat → Nat) : Nat → List Nat
  | 0 => (List.range 16).map fun i => be32 b (4 * i)
  | k + 1 => spreadTo b k ++ [snextW (spreadTo b k)]
/-- The sixty-four words of a block. -/
def spread (b : Nat → Nat) : List Nat := spreadTo b 48

/-- One round: eight words, a word of the spread, a number. -/
def round (v : List Nat) (k w : Nat) : List Nat :=
  let t1 := (v.getD 7 0 + Sig1 (v.getD 4 0) + cho (v.getD 4 0) (v.getD 5 0) (v.getD 6 0) + k + w) % M32
  let t2 := (Sig0 (v.getD 0 0) + maj (v.getD 0 0) (v.getD 1 0) (v.getD 2 0)) % M32
  [(t1 + t2) % M32, v.getD 0 0, v.getD 1 0, v.getD 2 0, (v.getD 3 0 + t1) % M32, v.getD 4 0, v.getD 5 0, v.getD 6 0]
def roundsTo (v w : List Nat) : Nat → List Nat
  | 0 => v
  | i + 1 => round (roundsTo v w i) (shaK.getD i 0) (w.getD i 0)
/-- A block into eight words. -/
def press (h : List Nat) (b : Nat → Nat) : List Nat :=
  let v := roundsTo h (spread b) 64
  (List.range 8).map fun i => (h.getD i 0 + v.getD i 0) % M32

theorem length_spreadTo (b : Nat → Nat) : ∀ k, (spreadTo b k).length = 16 + k
  | 0 => by simp [spreadTo]
  | k + 1 => by simp [spreadTo, length_spreadTo b k]; omega
theorem length_spread (b : Nat → Nat) : (spread b).length = 64 := length_spreadTo b 48
theorem length_round (v : List Nat) (k w : Nat) : (round v k w).length = 8 := rfl
theorem length_roundsTo (v w : List Nat) (hv : v.length = 8) : ∀ i, (roundsTo v w i).length = 8
  | 0 => hv
  | _ + 1 => rfl
theorem length_press (h : List Nat) (b : Nat → Nat) : (press h b).length = 8 := by simp [press]

/-- All words are below 2^32. -/
def Small (l : List Nat) : Prop := ∀ x ∈ l, x < M32
theorem Small.get {l : List Nat} (h : Small l) (i : Nat) : l.getD i 0 < M32 := by
  by_cases hi : i < l.length
  · have : l.getD i 0 = l[i] := by simp [List.getD, hi]
    rw [this]; exact h _ (List.getElem_mem hi)
  · have : l.getD i 0 = 0 := by simp [List.getD, Nat.le_of_not_lt hi]
    rw [this]; decide

theorem rotr_lt {v n : Nat} (hv : v < M32) (hn : n ≤ 32) : rotr v n < M32 := by
  unfold rotr
  have hp : 0 < 2 ^ n := Nat.pow_pos (by omega)
  have e : 2 ^ n * 2 ^ (32 - n) = M32 := by rw [← Nat.pow_add, show n + (32 - n) = 32 by omega]; rfl
  have h1 : v / 2 ^ n < 2 ^ (32 - n) := by
    apply Nat.div_lt_of_lt_mul; rw [e]; exact hv
  have h2 : v % 2 ^ n < 2 ^ n := Nat.mod_lt _ hp
  have h3 : (v % 2 ^ n + 1) * 2 ^ (32 - n) ≤ 2 ^ n * 2 ^ (32 - n) := Nat.mul_le_mul_right _ h2
  rw [e, Nat.add_mul] at h3
  omega

theorem xor_lt {a b : Nat} (ha : a < M32) (hb : b < M32) : a ^^^ b < M32 := Nat.xor_lt_two_pow (n := 32) ha hb
theorem and_lt {a b : Nat} (ha : a < M32) : a &&& b < M32 := Nat.lt_of_le_of_lt Nat.and_le_left ha
theorem sig0_lt {x : Nat} (h : x < M32) : sig0 x < M32 := xor_lt (xor_lt (rotr_lt h (by omega)) (rotr_lt h (by omega))) (Nat.lt_of_le_of_lt (Nat.div_le_self _ _) h)
theorem sig1_lt {x : Nat} (h : x < M32) : sig1 x < M32 := xor_lt (xor_lt (rotr_lt h (by omega)) (rotr_lt h (by omega))) (Nat.lt_of_le_of_lt (Nat.div_le_self _ _) h)
theorem Sig0_lt {x : Nat} (h : x < M32) : Sig0 x < M32 := xor_lt (xor_lt (rotr_lt h (by omega)) (rotr_lt h (by omega))) (rotr_lt h (by omega))
theorem Sig1_lt {x : Nat} (h : x < M32) : Sig1 x < M32 := xor_lt (xor_lt (rotr_lt h (by omega)) (rotr_lt h (by omega))) (rotr_lt h (by omega))
theorem cho_lt {e f g : Nat} (he : e < M32) : cho e f g < M32 := xor_lt (and_lt he) (and_lt (Nat.lt_of_le_of_lt (Nat.sub_le _ _) (by decide)))
theorem maj_lt {a b c : Nat} (ha : a < M32) (hb : b < M32) : maj a b c < M32 := xor_lt (xor_lt (and_lt ha) (and_lt ha)) (and_lt hb)
theorem nextW_lt (w : List Nat) : snextW w < M32 := Nat.mod_lt _ (by decide)
theorem be32_lt {b : Nat → Nat} (hb : ∀ i, b i < 256) (i : Nat) : be32 b i < M32 := by
  have h0 := hb i; have h1 := hb (i + 1); have h2 := hb (i + 2); have h3 := hb (i + 3)
  unfold be32 M32; omega
theorem small_spreadTo {b : Nat → Nat} (hb : ∀ i, b i < 256) : ∀ k, Small (spreadTo b k)
  | 0 => by
    intro x hx
    simp only [spreadTo, List.mem_map] at hx
    obtain ⟨i, _, rfl⟩ := hx
    exact be32_lt hb _
  | k + 1 => by
    intro x hx
    simp only [spreadTo, List.mem_append, List.mem_singleton] at hx
    rcases hx with hx | rfl
    · exact small_spreadTo hb k x hx
    · exact nextW_lt _
theorem small_shaH : Small shaH := by intro x hx; revert x; decide
theorem small_shaK : Small shaK := by intro x hx; revert x; decide
theorem small_round {v : List Nat} (hv : Small v) (k w : Nat) : Small (round v k w) := by
  intro x hx
  simp only [round, List.mem_cons, List.not_mem_nil, or_false] at hx
  rcases hx with rfl | rfl | rfl | rfl | rfl | rfl | rfl | rfl
  all_goals first | exact hv.get _ | exact Nat.mod_lt _ (by decide)
theorem small_roundsTo {v w : List Nat} (hv : Small v) : ∀ i, Small (roundsTo v w i)
  | 0 => hv
  | i + 1 => small_round (small_roundsTo hv i) _ _
theorem small_press (h : List Nat) (b : Nat → Nat) : Small (press h b) := by
  intro x hx
  simp only [press, List.mem_map] at hx
  obtain ⟨i, _, rfl⟩ := hx
  exact Nat.mod_lt _ (by decide)

/-- The k-th word of the spread. -/
def spr (b : Nat → Nat) (k : Nat) : Nat := (spread b).getD k 0

theorem getD_left {l m : List Nat} {j : Nat} (h : j < l.length) : (l ++ m).getD j 0 = l.getD j 0 := by
  simp [List.getD, List.getElem?_append_left h]
theorem getD_right {l m : List Nat} {j : Nat} (h : l.length ≤ j) : (l ++ m).getD j 0 = m.getD (j - l.length) 0 := by
  simp [List.getD, List.getElem?_append_right h]
theorem spreadTo_get (b : Nat → Nat) (j : Nat) : ∀ k m, j < 16 + k → (spreadTo b (k + m)).getD j 0 = (spreadTo b k).getD j 0
  | k, 0, _ => rfl
  | k, m + 1, h => by
    have h1 := length_spreadTo b (k + m)
    rw [← Nat.add_assoc]
    simp only [spreadTo]
    rw [getD_left (by omega)]
    exact spreadTo_get b j k m h
theorem spr_eq (b : Nat → Nat) {j k : Nat} (hk : k ≤ 48) (hj : j < 16 + k) : (spreadTo b k).getD j 0 = spr b j := by
  have := spreadTo_get b j k (48 - k) hj
  rw [show k + (48 - k) = 48 by omega] at this
  exact this.symm
theorem spr_head (b : Nat → Nat) {k : Nat} (hk : k < 16) : spr b k = be32 b (4 * k) := by
  rw [← spr_eq b (k := 0) (by omega) (by omega)]
  simp [spreadTo, List.getD, hk]
theorem spr_next (b : Nat → Nat) {k : Nat} (h1 : 16 ≤ k) (h2 : k < 64) : spr b k = (spr b (k - 16) + sig0 (spr b (k - 15)) + spr b (k - 7) + sig1 (spr b (k - 2))) % M32 := by
  have hl := length_spreadTo b (k - 16)
  rw [← spr_eq b (k := k - 16 + 1) (by omega) (by omega)]
  simp only [spreadTo]
  rw [getD_right (by omega), hl, show k - (16 + (k - 16)) = 0 by omega]
  simp only [List.getD_cons_zero, snextW, hl]
  rw [show 16 + (k - 16) = k by omega, spr_eq b (by omega) (by omega), spr_eq b (by omega) (by omega), spr_eq b (by omega) (by omega), spr_eq b (by omega) (by omega)]
theorem spr_lt {b : Nat → Nat} (hb : ∀ i, b i < 256) (k : Nat) : spr b k < M32 := (small_spreadTo hb 48).get k

/-- The array of the spread, as far as it has come. -/
def sprTo (b : Nat → Nat) (k : Nat) : List Nat := (List.range 64).map fun j => if j < k then spr b j else 0
theorem length_sprTo (b : Nat → Nat) (k : Nat) : (sprTo b k).length = 64 := by simp [sprTo]
theorem sprTo_get (b : Nat → Nat) {k j : Nat} (hj : j < 64) (hk : j < k) : (sprTo b k)[j]? = some (spr b j) := by simp [sprTo, hj, hk]
theorem sprTo_set (b : Nat → Nat) {k : Nat} : (sprTo b k).set k (spr b k) = sprTo b (k + 1) := by
  apply List.ext_getElem
  · simp [sprTo]
  · intro j h1 h2
    simp only [sprTo, List.getElem_set, List.getElem_map, List.getElem_range]
    by_cases e : k = j
    · subst e; simp
    · rw [if_neg e]
      by_cases hj : j < k
      · rw [if_pos hj, if_pos (by omega)]
      · rw [if_neg hj, if_neg (by omega)]
theorem sprTo_zero (b : Nat → Nat) : sprTo b 0 = List.replicate 64 0 := by
  apply List.ext_getElem
  · simp [sprTo]
  · intro j h1 h2
    rw [List.getElem_replicate]
    simp only [sprTo, List.getElem_map, List.getElem_range]
    rw [if_neg (by omega)]
theorem sprTo_full (b : Nat → Nat) : sprTo b 64 = spread b := by
  apply List.ext_getElem
  · simp [sprTo, length_spread]
  · intro j h1 h2
    have hj : j < 64 := by simpa [sprTo] using h1
    simp [sprTo, hj, spr, List.getD, h2]

/-! ### The walk's spelling -/
theorem wrap32_nat (x : Nat) : IntKind.u32.wrap (x : Int) = ((x % M32 : Nat) : Int) := by rw [IntKind.wrap_u32']; unfold M32; omega
theorem wrap32_add (a b : Nat) : IntKind.u32.wrap ((a : Int) + (b : Int)) = (((a + b) % M32 : Nat) : Int) := by
  rw [← Int.natCast_add]; exact wrap32_nat _

theorem walk_xor {a b : Nat} (ha : a < M32) (hb : b < M32) : bits .xor .u32 (a : Int) (b : Int) = ((a ^^^ b : Nat) : Int) := u32_xor_nat _ _ ha hb
theorem walk_and {a b : Nat} (ha : a < M32) (hb : b < M32) : bits .and .u32 (a : Int) (b : Int) = ((a &&& b : Nat) : Int) := u32_and_nat _ _ ha hb
theorem walk_sig0 {p : Nat} (h : p < M32) : bits .xor .u32 (bits .xor .u32 (rotr p 7 : Int) (rotr p 18 : Int)) ((p : Int) / 8) = (sig0 p : Int) := by
  have h1 := rotr_lt (n := 7) h (by omega)
  have h2 := rotr_lt (n := 18) h (by omega)
  rw [walk_xor h1 h2, show ((p : Int) / 8) = ((p / 8 : Nat) : Int) by simp, walk_xor (xor_lt h1 h2) (Nat.lt_of_le_of_lt (Nat.div_le_self _ _) h)]
  rfl
theorem walk_sig1 {p : Nat} (h : p < M32) : bits .xor .u32 (bits .xor .u32 (rotr p 17 : Int) (rotr p 19 : Int)) ((p : Int) / 1024) = (sig1 p : Int) := by
  have h1 := rotr_lt (n := 17) h (by omega)
  have h2 := rotr_lt (n := 19) h (by omega)
  rw [walk_xor h1 h2, show ((p : Int) / 1024) = ((p / 1024 : Nat) : Int) by simp, walk_xor (xor_lt h1 h2) (Nat.lt_of_le_of_lt (Nat.div_le_self _ _) h)]
  rfl

theorem walk_not {e : Nat} (he : e < M32) : bits .xor .u32 IntKind.u32.max (e : Int) = ((4294967295 - e : Nat) : Int) := by
  rw [show IntKind.u32.max = ((4294967295 : Nat) : Int) by simp [IntKind.max, IntKind.signed, IntKind.bits], walk_xor (by decide) he]
  congr 1
  apply Nat.eq_of_testBit_eq
  intro i
  have h1 : (4294967295 : Nat).testBit i = decide (i < 32) := Nat.testBit_two_pow_sub_one 32 i
  have hm : (4294967295 - e).testBit i = (decide (i < 32) && !e.testBit i) := by
    have := Nat.testBit_two_pow_sub_succ (n := 32) (x := e) he i
    rwa [show 2 ^ 32 - (e + 1) = 4294967295 - e by omega] at this
  rw [Nat.testBit_xor, h1, hm]
  by_cases hi : i < 32
  · simp [hi]
  · have : e.testBit i = false := Nat.testBit_lt_two_pow (Nat.lt_of_lt_of_le he (show 2 ^ 32 ≤ 2 ^ i from Nat.pow_le_pow_right (by omega) (by omega)))
    simp [hi, this]
theorem walk_not' {e : Nat} (he : e < M32) : bits .xor .u32 (if IntKind.u32.signed = true then -1 else IntKind.u32.max) (e : Int) = ((4294967295 - e : Nat) : Int) := walk_not he

end Go.Proofs.YtjhfoddhpmmjoaaDoor
