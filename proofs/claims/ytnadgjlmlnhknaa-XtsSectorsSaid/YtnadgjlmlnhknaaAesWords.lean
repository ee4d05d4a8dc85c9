/-
  The key's words, plainly.
-/
import Derived.Test.YtnadgjlmlnhknaaAesPlain
import Derived.Test.YtnadgjlmlnhknaaRowB
namespace Go.Proofs.Ytnadgjlmlnhknaa

def prevW (L : List Nat) (i k : Nat) : Nat := byt L (4 * (i - 1) + k)
def rotW (L : List Nat) (i k : Nat) : Nat := if i % 8 = 0 then prevW L i ((k + 1) % 4) else prevW L i k
def boxW (L : List Nat) (i k : Nat) : Nat := if i % 4 = 0 then gbox (rotW L i k) else rotW L i k
def powW (L : List Nat) (i k : Nat) : Nat := if i % 8 = 0 ∧ k = 0 then boxW L i k ^^^ gpow 2 (i / 8 - 1) else boxW L i k
theorem nextW_hi (key : Nat → Nat) (L : List Nat) {i : Nat} (h : ¬ i < 8) : nextW key L i = (List.range 4).map fun k => byt L (4 * (i - 8) + k) ^^^ powW L i k := by
  unfold nextW
  rw [if_neg h]
  rfl
theorem nextW_lo (key : Nat → Nat) (L : List Nat) {i : Nat} (h : i < 8) : nextW key L i = (List.range 4).map fun k => key (4 * i + k) := by
  unfold nextW
  rw [if_pos h]
  rfl
theorem byt_range4 (f : Nat → Nat) {k : Nat} (hk : k < 4) : byt ((List.range 4).map f) k = f k := by simp [byt, List.getD, hk]
theorem byt_words_lo (key : Nat → Nat) (i : Nat) {q : Nat} (h : q < 4 * i) : byt (wordsTo key (i + 1)) q = byt (wordsTo key i) q := by
  unfold byt
  rw [show wordsTo key (i + 1) = wordsTo key i ++ nextW key (wordsTo key i) i from rfl, List.getD_eq_getElem?_getD, List.getD_eq_getElem?_getD, List.getElem?_append_left (by rw [length_wordsTo]; exact h)]
theorem byt_words_hi (key : Nat → Nat) (i : Nat) (k : Nat) : byt (wordsTo key (i + 1)) (4 * i + k) = byt (nextW key (wordsTo key i) i) k := by
  unfold byt
  rw [show wordsTo key (i + 1) = wordsTo key i ++ nextW key (wordsTo key i) i from rfl, List.getD_eq_getElem?_getD, List.getD_eq_getElem?_getD, List.getElem?_append_right (by rw [length_wordsTo]; omega), length_wordsTo, show 4 * i + k - 4 * i = k by omega]
theorem prevW_lt {L : List Nat} (h : ∀ q, byt L q < 256) (i k : Nat) : prevW L i k < 256 := h _
theorem rotW_lt {L : List Nat} (h : ∀ q, byt L q < 256) (i k : Nat) : rotW L i k < 256 := by unfold rotW; split <;> exact prevW_lt h _ _
theorem boxW_lt {L : List Nat} (h : ∀ q, byt L q < 256) (i k : Nat) : boxW L i k < 256 := by
  unfold boxW; split
  · exact gbox_lt (rotW_lt h _ _)
  · exact rotW_lt h _ _
theorem powW_lt {L : List Nat} (h : ∀ q, byt L q < 256) (i k : Nat) : powW L i k < 256 := by
  unfold powW; split
  · exact xor_lt8 (boxW_lt h _ _) (gpow_lt _ (by decide))
  · exact boxW_lt h _ _
theorem words_lt {key : Nat → Nat} (hs : ∀ i, key i < 256) : ∀ i q, byt (wordsTo key i) q < 256
  | 0, q => show (([] : List Nat).getD q 0) < 256 by simp
  | i + 1, q => by
    by_cases h : q < 4 * i
    · rw [byt_words_lo key i h]; exact words_lt hs i q
    · by_cases h2 : q < 4 * i + 4
      · rw [show q = 4 * i + (q - 4 * i) by omega, byt_words_hi]
        have hk : q - 4 * i < 4 := by omega
        by_cases h8 : i < 8
        · rw [nextW_lo key _ h8, byt_range4 _ hk]; exact hs _
        · rw [nextW_hi key _ h8, byt_range4 _ hk]; exact xor_lt8 (words_lt hs i _) (powW_lt (words_lt hs i) _ _)
      · have e : (wordsTo key (i + 1))[q]? = none := List.getElem?_eq_none (by rw [length_wordsTo]; omega)
        unfold byt
        rw [List.getD_eq_getElem?_getD, e]
        decide
/-- The first words lie there. -/
def Wd (F : Nat → Nat) (key : Nat → Nat) (i : Nat) : Prop := ∀ q, q < 4 * i → F q = byt (wordsTo key i) q
/-- .. and of the next the first k bytes. -/
def WdPart (F : Nat → Nat) (key : Nat → Nat) (i k : Nat) : Prop := Wd F key i ∧ ∀ q, q < k → F (4 * i + q) = byt (nextW key (wordsTo key i) i) q
theorem WdPart.next {F : Nat → Nat} {key : Nat → Nat} {i : Nat} (h : WdPart F key i 4) : Wd F key (i + 1) := fun q hq => by
  by_cases h1 : q < 4 * i
  · rw [byt_words_lo key i h1]; exact h.1 q h1
  · rw [show q = 4 * i + (q - 4 * i) by omega, byt_words_hi]; exact h.2 _ (by omega)
theorem WdPart.none {F : Nat → Nat} {key : Nat → Nat} {i : Nat} (h : Wd F key i) : WdPart F key i 0 := ⟨h, fun q hq => by omega⟩
end Go.Proofs.Ytnadgjlmlnhknaa
