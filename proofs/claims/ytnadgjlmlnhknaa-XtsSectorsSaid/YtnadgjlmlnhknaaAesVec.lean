/-
  The fixed call's words and states: each step by reckoning. (Printed by wip/tools/aesvec.py.)
-/
import Derived.Test.YtnadgjlmlnhknaaAesWords
namespace Go.Proofs.Ytnadgjlmlnhknaa

def vecW : List Nat := [0, 1, 2, 3, 4, 5, 6, 7, 8, 9, 10, 11, 12, 13, 14, 15, 16, 17, 18, 19, 20, 21, 22, 23, 24, 25, 26, 27, 28, 29, 30, 31, 165, 115, 194, 159, 161, 118, 196, 152, 169, 127, 206, 147, 165, 114, 192, 156, 22, 81, 168, 205, 2, 68, 190, 218, 26, 93, 164, 193, 6, 64, 186, 222, 174, 135, 223, 240, 15, 241, 27, 104, 166, 142, 213, 251, 3, 252, 21, 103, 109, 225, 241, 72, 111, 165, 79, 146, 117, 248, 235, 83, 115, 184, 81, 141, 198, 86, 130, 127, 201, 167, 153, 23, 111, 41, 76, 236, 108, 213, 89, 139, 61, 226, 58, 117, 82, 71, 117, 231, 39, 191, 158, 180, 84, 7, 207, 57, 11, 220, 144, 95, 194, 123, 9, 72, 173, 82, 69, 164, 193, 135, 28, 47, 69, 245, 166, 96, 23, 178, 211, 135, 48, 13, 77, 51, 100, 10, 130, 10, 124, 207, 247, 28, 190, 180, 254, 84, 19, 230, 187, 240, 210, 97, 167, 223, 240, 26, 250, 254, 231, 168, 41, 121, 215, 165, 100, 74, 179, 175, 230, 64, 37, 65, 254, 113, 155, 245, 0, 37, 136, 19, 187, 213, 90, 114, 28, 10, 78, 90, 102, 153, 169, 242, 79, 224, 126, 87, 43, 170, 205, 248, 205, 234, 36, 252, 121, 204, 191, 9, 121, 233, 55, 26, 194, 60, 109, 104, 222, 54]
def vecS : List (List Nat) := [[0, 16, 32, 48, 64, 80, 96, 112, 128, 144, 160, 176, 192, 208, 224, 240],
  [79, 99, 118, 6, 67, 224, 170, 133, 239, 167, 33, 50, 1, 164, 231, 5],
  [24, 89, 251, 194, 138, 28, 0, 160, 120, 237, 138, 173, 196, 47, 97, 9],
  [151, 92, 102, 193, 203, 159, 63, 168, 169, 58, 40, 223, 142, 225, 15, 99],
  [28, 5, 242, 113, 164, 23, 224, 79, 249, 33, 197, 193, 4, 112, 21, 84],
  [195, 87, 170, 225, 27, 69, 183, 176, 162, 199, 189, 40, 168, 220, 153, 250],
  [127, 7, 65, 67, 203, 78, 36, 62, 193, 12, 129, 93, 131, 117, 213, 76],
  [214, 83, 164, 105, 108, 160, 188, 15, 90, 202, 171, 93, 185, 108, 94, 125],
  [90, 168, 88, 57, 95, 210, 141, 125, 5, 225, 163, 136, 104, 243, 185, 197],
  [74, 130, 72, 81, 197, 126, 126, 71, 100, 61, 229, 12, 42, 243, 232, 201],
  [193, 73, 7, 246, 202, 59, 58, 160, 112, 233, 170, 49, 59, 82, 181, 236],
  [95, 156, 106, 191, 186, 198, 52, 170, 80, 64, 159, 167, 102, 103, 118, 83],
  [81, 102, 4, 149, 67, 83, 149, 3, 20, 251, 134, 228, 1, 146, 37, 33],
  [98, 123, 206, 185, 153, 157, 90, 170, 201, 69, 236, 244, 35, 245, 109, 165],
  [142, 162, 183, 202, 81, 103, 69, 191, 234, 252, 73, 144, 75, 73, 96, 137]]
def vecR : List (List Nat) := [[99, 83, 224, 140, 9, 96, 225, 4, 205, 112, 183, 81, 186, 202, 208, 231],
  [132, 225, 253, 107, 26, 92, 148, 111, 223, 73, 56, 151, 124, 251, 172, 35],
  [173, 156, 126, 1, 126, 85, 239, 37, 188, 21, 15, 224, 28, 203, 99, 149],
  [136, 219, 52, 251, 31, 128, 118, 120, 211, 248, 51, 194, 25, 74, 117, 158],
  [156, 240, 166, 32, 73, 253, 89, 163, 153, 81, 137, 132, 242, 107, 225, 120],
  [46, 110, 122, 45, 175, 198, 238, 248, 58, 134, 172, 231, 194, 91, 169, 52],
  [210, 47, 12, 41, 31, 254, 3, 26, 120, 157, 131, 178, 236, 197, 54, 76],
  [246, 224, 98, 255, 80, 116, 88, 249, 190, 80, 73, 118, 86, 237, 101, 76],
  [190, 181, 10, 166, 207, 248, 86, 18, 107, 13, 106, 255, 69, 194, 93, 196],
  [214, 243, 217, 221, 166, 39, 155, 209, 67, 13, 82, 160, 229, 19, 243, 254],
  [120, 226, 172, 206, 116, 30, 213, 66, 81, 0, 197, 224, 226, 59, 128, 199],
  [207, 180, 219, 237, 244, 9, 56, 8, 83, 133, 2, 172, 51, 222, 24, 92],
  [209, 237, 68, 253, 26, 15, 63, 42, 250, 79, 242, 123, 124, 51, 42, 105],
  [170, 94, 206, 6, 238, 110, 60, 86, 221, 230, 139, 172, 38, 33, 190, 191]]

theorem vec_next : ∀ i, i < 60 → nextW (fun i => i) vecW i = (vecW.drop (4 * i)).take 4 := by
  have h : (List.range 60).all (fun i => nextW (fun i => i) vecW i == (vecW.drop (4 * i)).take 4) = true := by decide +kernel
  intro i hi
  exact eq_of_beq (List.all_eq_true.1 h i (List.mem_range.2 hi))
theorem nextW_same {key key' : Nat → Nat} {L L' : List Nat} {i : Nat} (hk : ∀ q, q < 32 → key q = key' q) (hL : ∀ q, q < 4 * i → L.getD q 0 = L'.getD q 0) : nextW key L i = nextW key' L' i := by
  by_cases h8 : i < 8
  · rw [nextW_lo _ _ h8, nextW_lo _ _ h8]
    exact List.map_congr_left fun k hk4 => hk _ (by have := List.mem_range.1 hk4; omega)
  · unfold nextW
    rw [if_neg h8, if_neg h8]
    refine List.map_congr_left fun k hk4 => ?_
    have h4 := List.mem_range.1 hk4
    have e : ∀ k, k < 4 → L.getD (4 * (i - 1) + k) 0 = L'.getD (4 * (i - 1) + k) 0 := fun k hk => hL _ (by omega)
    have e0 : L.getD (4 * (i - 8) + k) 0 = L'.getD (4 * (i - 8) + k) 0 := hL _ (by omega)
    simp only [e0, e k h4, e _ (Nat.mod_lt (k + 1) (show 0 < 4 by decide))]
theorem vec_words {key : Nat → Nat} (hk : ∀ q, q < 32 → key q = q) : ∀ i, i ≤ 60 → wordsTo key i = vecW.take (4 * i)
  | 0, _ => rfl
  | i + 1, hi => by
    have ih := vec_words hk i (by omega)
    have e : nextW key (vecW.take (4 * i)) i = (vecW.drop (4 * i)).take 4 := by
      rw [← vec_next i (by omega)]
      refine nextW_same hk fun q hq => ?_
      rw [List.getD_eq_getElem?_getD, List.getD_eq_getElem?_getD, List.getElem?_take_of_lt hq]
    rw [show wordsTo key (i + 1) = wordsTo key i ++ nextW key (wordsTo key i) i from rfl, ih, e, show 4 * (i + 1) = 4 * i + 4 by omega, List.take_add]
theorem vec_wordsOf {key : Nat → Nat} (hk : ∀ q, q < 32 → key q = q) : wordsOf key = vecW := by
  unfold wordsOf
  rw [vec_words hk 60 (Nat.le_refl _)]
  exact List.take_of_length_le (Nat.le_of_eq (by kernel_rfl))
theorem vec_rows : ∀ r, r < 14 → ∀ i, i < 16 → rowsF gbox (byt (vecS.getD r [])) i = byt (vecR.getD r []) i := by
  have h : (List.range 14).all (fun r => (List.range 16).all fun i => rowsF gbox (byt (vecS.getD r [])) i == byt (vecR.getD r []) i) = true := by decide +kernel
  intro r hr i hi
  exact eq_of_beq (List.all_eq_true.1 (List.all_eq_true.1 h r (List.mem_range.2 hr)) i (List.mem_range.2 hi))
theorem vec_cols : ∀ r, r < 14 → ∀ i, i < 16 → addF (byt vecW) (r + 1) (if r + 1 < 14 then colsF 2 3 1 1 (byt (vecR.getD r [])) else byt (vecR.getD r [])) i = byt (vecS.getD (r + 1) []) i := by
  have h : (List.range 14).all (fun r => (List.range 16).all fun i => addF (byt vecW) (r + 1) (if r + 1 < 14 then colsF 2 3 1 1 (byt (vecR.getD r [])) else byt (vecR.getD r [])) i == byt (vecS.getD (r + 1) []) i) = true := by decide +kernel
  intro r hr i hi
  exact eq_of_beq (List.all_eq_true.1 (List.all_eq_true.1 h r (List.mem_range.2 hr)) i (List.mem_range.2 hi))
theorem vec_turn {x : Nat → Nat} (hx : ∀ i, i < 16 → x i = 17 * i) : ∀ r, r ≤ 14 → Same16 (turnTo (byt vecW) x r) (byt (vecS.getD r []))
  | 0, _ => fun i hi => by
    have h : ∀ i, i < 16 → (17 * i) ^^^ byt vecW (16 * 0 + i) = byt (vecS.getD 0 []) i := by decide +kernel
    show x i ^^^ byt vecW (16 * 0 + i) = _
    rw [hx i hi]
    exact h i hi
  | r + 1, hr => by
    have ih := vec_turn hx r (by omega)
    have h1 : Same16 (rowsF gbox (turnTo (byt vecW) x r)) (byt (vecR.getD r [])) := (ih.rows gbox).trans (vec_rows r (by omega))
    have h2 : Same16 (midF (r + 1) (turnTo (byt vecW) x r)) (if r + 1 < 14 then colsF 2 3 1 1 (byt (vecR.getD r [])) else byt (vecR.getD r [])) := by
      unfold midF
      split
      · exact h1.cols _ _ _ _
      · exact h1
    rw [turnTo_succ]
    exact (h2.add _ _).trans (vec_cols r (by omega))
/-- The fixed call's first bytes. -/
theorem vec_any {key x : Nat → Nat} (hk : ∀ q, q < 32 → key q = q) (hx : ∀ i, i < 16 → x i = 17 * i) :
    turnF (byt (wordsOf key)) x 0 = 142 ∧ turnF (byt (wordsOf key)) x 1 = 162 ∧ turnF (byt (wordsOf key)) x 2 = 183 ∧ turnF (byt (wordsOf key)) x 3 = 202 := by
  rw [vec_wordsOf hk]
  have h := vec_turn hx 14 (Nat.le_refl _)
  exact ⟨h 0 (by decide), h 1 (by decide), h 2 (by decide), h 3 (by decide)⟩
end Go.Proofs.Ytnadgjlmlnhknaa
