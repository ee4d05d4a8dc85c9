/-
  A cipher's block by its cells' function; Words. No condition.
-/
import Derived.Test.YtecmagenlbnchaaQXtsDouble
import Derived.Test.YtecmagenlbnchaaQGfBoxes
import Derived.Deep.OwnRows
import Derived.Lib.LazyBuf
import Derived.Great.Walk
namespace Go.Proofs.Ytecmagenlbnchaa
set_option maxRecDepth 100000
open Go.RowKit

def aesCell (F : Nat → Nat) (j : Nat) : Value := if j = 0 then .bool true else .int .u8 (F (j - 1) : Int)
/-- A cipher at block b, whose bytes behind the first cell are F's. -/
def CipherF (w : World) (b : Nat) (F : Nat → Nat) : Prop := w.rowIs b 120 4593 (aesCell F)
def putF (F : Nat → Nat) (i v : Nat) : Nat → Nat := fun j => if j = i then v else F j
def putL (F : Nat → Nat) (o : Nat) (l : List Nat) : Nat → Nat := fun j => if o ≤ j ∧ j < o + l.length then byt l (j - o) else F j
theorem aesCell_at (F : Nat → Nat) (i : Nat) : aesCell F (1 + i) = .int .u8 (F i : Int) := by
  unfold aesCell; rw [if_neg (by omega), show 1 + i - 1 = i by omega]
theorem CipherF.cell {w : World} {b : Nat} {F : Nat → Nat} (h : CipherF w b F) {i : Nat} (hi : i < 4592) : w.cell? ⟨b, 1 + i, none⟩ = some (.int .u8 (F i : Int)) := by
  rw [World.rowIs.cell h (i := 1 + i) (by omega), aesCell_at]
theorem CipherF.made {w : World} {b : Nat} {F : Nat → Nat} (h : CipherF w b F) : w.cell? ⟨b, 0, none⟩ = some (.bool true) := World.rowIs.cell h (i := 0) (by omega)
theorem CipherF.froz {w : World} {b : Nat} {F : Nat → Nat} (h : CipherF w b F) (i : Nat) : w.frozen? ⟨b, i, none⟩ = false := World.rowIs.frozen h i
theorem CipherF.set {w : World} {b : Nat} {F : Nat → Nat} (h : CipherF w b F) (i v : Nat) : CipherF (w.setCell ⟨b, 1 + i, none⟩ (.int .u8 (v : Int))) b (putF F i v) :=
  (World.rowIs.set h (1 + i) (.int .u8 (v : Int))).congr fun j _ => by
    by_cases h1 : j = 1 + i
    · subst h1; rw [if_pos rfl, aesCell_at]; unfold putF; rw [if_pos rfl]
    · rw [if_neg h1]
      unfold aesCell putF
      by_cases h0 : j = 0
      · rw [if_pos h0, if_pos h0]
      · rw [if_neg h0, if_neg h0, if_neg (by omega)]
theorem CipherF.setL {w : World} {b : Nat} {F : Nat → Nat} (h : CipherF w b F) (o : Nat) (l : List Nat) : CipherF (w.setCells b (1 + o) (u8s l).toList) b (putL F o l) :=
  (rowIs_setCells (u8s l).toList (1 + o) w _ h).congr fun j _ => by
    have hl : (u8s l).toList.length = l.length := by simp [u8s]
    rw [hl]
    unfold aesCell putL
    by_cases h0 : j = 0
    · rw [if_neg (by omega), if_pos h0, if_pos h0]
    · by_cases h1 : 1 + o ≤ j ∧ j < 1 + o + l.length
      · rw [if_pos h1, if_neg h0, if_pos (by omega)]
        have h2 : j - (1 + o) < l.length := by omega
        have e : j - 1 - o = j - (1 + o) := by omega
        rw [e]
        simp [u8s, byt, List.getD, h2]
      · rw [if_neg h1, if_neg h0, if_neg h0, if_neg (by omega)]
theorem CipherF.stay {w w' : World} {b : Nat} {F : Nat → Nat} (h : CipherF w b F) (e : w'.heap[b]? = w.heap[b]?) : CipherF w' b F := World.rowIs.of_block h e
theorem CipherF.there {w : World} {b : Nat} {F : Nat → Nat} (h : CipherF w b F) {o n : Nat} (hn : o + n ≤ 4592) : w.there b (1 + o) n := fun j hj => by
  rw [show 1 + o + j = 1 + (o + j) by omega]
  exact ⟨by rw [h.cell (by omega)]; rfl, h.froz _⟩
theorem CipherF.range {w : World} {b : Nat} {F : Nat → Nat} (h : CipherF w b F) {o n : Nat} (hn : o + n ≤ 4592) : w.rangeAt b (1 + o) (u8s (tabN n (fun j => F (o + j)))).toList := fun j v hv => by
  have hj : j < n := by
    have h1 := (List.getElem?_eq_some_iff.1 hv).1
    simpa [u8s, length_tabN] using h1
  have e : (u8s (tabN n (fun j => F (o + j)))).toList[j]? = some (.int .u8 (F (o + j) : Int)) := by simp [u8s, tabN, hj]
  rw [e] at hv
  cases hv
  rw [show 1 + o + j = 1 + (o + j) by omega]
  exact h.cell (by omega)
theorem CipherF.size {w : World} {b : Nat} {F : Nat → Nat} (h : CipherF w b F) : b < w.heap.size := World.rowIs.lt h

/-- The boxes lie in it. -/
def Boxed (F : Nat → Nat) : Prop := (∀ i, i < 256 → F (240 + i) = gbox i) ∧ (∀ i, i < 256 → F (496 + i) = gunb i)
/-- .. and the products. -/
def Tabs (F : Nat → Nat) : Prop := Boxed F ∧ ∀ f, f ∈ [1, 2, 3, 9, 11, 13, 14] → ∀ i, i < 256 → F (752 + 256 * f + i) = gmul f i
theorem gunb_lt {a : Nat} (h : a < 256) : gunb a < 256 := (unb_lt_box a h).1
theorem CipherF.at_ {w : World} {b : Nat} {F W : Nat → Nat} (h : CipherF w b F) (hT : Tabs F) (hW : ∀ i, i < 240 → F i = W i) (hb : ∀ i, W i < 256) : CipherAt w b W := by
  refine ⟨h.size, h.made, ?_, ?_, ?_, ?_⟩
  · intro i hi; exact ⟨hb i, by rw [h.cell (by omega), hW i hi]⟩
  · intro i hi; exact ⟨gbox_lt hi, by rw [show 241 + i = 1 + (240 + i) by omega, h.cell (by omega), hT.1.1 i hi]⟩
  · intro i hi; exact ⟨gunb_lt hi, by rw [show 497 + i = 1 + (496 + i) by omega, h.cell (by omega), hT.1.2 i hi]⟩
  · intro f hf i hi
    have l : f < 15 := by simp at hf; omega
    exact ⟨gmul_lt _ (by omega), by rw [show 753 + 256 * f + i = 1 + (752 + 256 * f + i) by omega, h.cell (by omega), hT.2 f hf i hi]⟩

/-- What New keeps. -/
structure NewSt (w wr : World) (key : List Nat) (F : Nat → Nat) : Prop where
  k : RowB wr w.heap.size 23 key
  c : CipherF wr (w.heap.size + 1) F
  low : Below w.heap.size w wr
theorem NewSt.below {w wr w' : World} {key : List Nat} {F : Nat → Nat} (h : NewSt w wr key F) (hB : Below wr.heap.size wr w') : NewSt w w' key F :=
  ⟨h.k.below hB h.k.lt, h.c.stay (hB.block _ h.c.size), h.low.trans (hB.mono h.low.size)⟩
theorem NewSt.drew {w wr : World} {key : List Nat} {F : Nat → Nat} (h : NewSt w wr key F) : NewSt w wr.drew key F := ⟨h.k, h.c, h.low.drew⟩
theorem NewSt.set {w wr : World} {key : List Nat} {F : Nat → Nat} (h : NewSt w wr key F) (i v : Nat) : NewSt w (wr.setCell ⟨w.heap.size + 1, 1 + i, none⟩ (.int .u8 (v : Int))) key (putF F i v) :=
  ⟨h.k.other (heap_setCell_other _ _ _ _ (show w.heap.size ≠ w.heap.size + 1 by omega)), h.c.set i v, h.low.setCell (p := ⟨w.heap.size + 1, 1 + i, none⟩) (by simp) _⟩
theorem NewSt.setL {w wr : World} {key : List Nat} {F : Nat → Nat} (h : NewSt w wr key F) (o : Nat) (l : List Nat) : NewSt w (wr.setCells (w.heap.size + 1) (1 + o) (u8s l).toList) key (putL F o l) := by
  refine ⟨h.k.other ?_, h.c.setL o l, below_setCells (by omega) _ _ _ h.low⟩
  exact (below_setCells (B := w.heap.size + 1) (Nat.le_refl _) (u8s l).toList (1 + o) wr ⟨rfl, rfl, rfl, Nat.le_refl _, fun _ _ => rfl⟩).block _ (by omega)

/-- What a new cipher's block holds. -/
def newCells : Array Value := (Value.bool true :: List.replicate 4592 (Value.int .u8 0)).toArray
theorem newCells_size : newCells.size = 4593 := by unfold newCells; rw [List.size_toArray, List.length_cons, List.length_replicate]
theorem newCells_at (i : Nat) (hi : i < newCells.size) : newCells[i]? = some (aesCell (fun _ => 0) i) := by
  rw [newCells_size] at hi
  unfold newCells aesCell
  rw [List.getElem?_toArray]
  cases i with
  | zero => rfl
  | succ j =>
    rw [List.getElem?_cons_succ, List.getElem?_replicate, if_pos (by omega), if_neg (by omega)]
    rfl
theorem NewSt.begin (w : World) (key : List Nat) : NewSt w ((w.alloc (.cells (u8s key) 23)).alloc (.cells newCells 120)) key (fun _ => 0) := by
  have r0 : RowB (w.alloc (.cells (u8s key) 23)) w.heap.size 23 key := heap_alloc_new _ _
  have c0 := World.rowIs_alloc (w.alloc (.cells (u8s key) 23)) newCells 120 (aesCell fun _ => 0) newCells_at
  rw [newCells_size, show (w.alloc (.cells (u8s key) 23)).heap.size = w.heap.size + 1 by simp] at c0
  exact ⟨r0.alloc _, c0, ((Below.refl _ _).alloc (Nat.le_refl _) _).alloc (by simp) _⟩
end Go.Proofs.Ytecmagenlbnchaa
