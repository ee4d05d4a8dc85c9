/-
  alive of law 5: the fixed call. No condition.
  The law AesBack. Condition: a key of 32 bytes, a block of 16.
-/
import Derived.Test.YtecmagenlbnchaaQAesNew
import Derived.Test.YtecmagenlbnchaaQAesBack
import Derived.Test.YtecmagenlbnchaaQAesVec
import Derived.Test.YtecmagenlbnchaaQCmp
namespace Go.Proofs.Ytecmagenlbnchaa
set_option maxRecDepth 100000
open Go.RowKit

theorem tab_small {f : Nat → Nat} (h : Bytes16 f) : ∀ x ∈ tab f, x < 256 := fun x hx => by
  obtain ⟨i, hi, rfl⟩ := List.mem_map.1 hx
  exact h i (List.mem_range.1 hi)
theorem tab_eq {f g : Nat → Nat} (h : Same16 f g) : tab f = tab g := tab_ext h
theorem same_tab {f g : Nat → Nat} (h : tab f = tab g) : Same16 f g := fun i hi => by rw [← byt_tab f hi, h, byt_tab g hi]
theorem info32 {l : List Nat} (h : l.length = 32) : (Try.prog.info? 23).map (·.size) = some (u8s l).size := by rw [show (u8s l).size = 32 by simp [u8s, h]]; rfl
theorem cmp16 (f g : Nat → Nat) (hf : Bytes16 f) (hg : Bytes16 g) (x : World) : (Op.equalIn 10000 91 (.agg (u8s (tab f))) (.agg (u8s (tab g)))).run Try.prog x = .ok (tab f == tab g) x :=
  run_equal_arr (P := Try.prog) Try.underlying91 Try.underlying5 (by kernel_rfl) (tab_small hf) (tab_small hg) (length_tab _) (length_tab _) x

/-- What alive keeps while it fills. -/
structure FillSt (w wr : World) (k b : List Nat) : Prop where
  k : RowB wr w.heap.size 23 k
  b : RowB wr (w.heap.size + 1) 91 b
  low : Below w.heap.size w wr
theorem FillSt.setK {w wr : World} {k b : List Nat} (h : FillSt w wr k b) (i v : Nat) : FillSt w (wr.setCell ⟨w.heap.size, i, none⟩ (.int .u8 (v : Int))) (k.set i v) b :=
  ⟨h.k.set i v, h.b.other (heap_setCell_other _ _ _ _ (show w.heap.size + 1 ≠ w.heap.size by omega)), h.low.setCell (p := ⟨w.heap.size, i, none⟩) (Nat.le_refl _) _⟩
theorem FillSt.setB {w wr : World} {k b : List Nat} (h : FillSt w wr k b) (i v : Nat) : FillSt w (wr.setCell ⟨w.heap.size + 1, i, none⟩ (.int .u8 (v : Int))) k (b.set i v) :=
  ⟨h.k.other (heap_setCell_other _ _ _ _ (show w.heap.size ≠ w.heap.size + 1 by omega)), h.b.set i v, h.low.setCell (p := ⟨w.heap.size + 1, i, none⟩) (by simp) _⟩
theorem FillSt.begin (w : World) : FillSt w ((w.alloc (.cells (u8s (List.replicate 32 0)) 23)).alloc (.cells (u8s (List.replicate 16 0)) 91)) (tabN 32 (upTo 0 (fun i => i) (fun _ => 0))) (tabN 16 (upTo 0 (fun i => 17 * i) (fun _ => 0))) := by
  have r0 : RowB (w.alloc (.cells (u8s (List.replicate 32 0)) 23)) w.heap.size 23 (List.replicate 32 0) := heap_alloc_new _ _
  have r1 : RowB ((w.alloc (.cells (u8s (List.replicate 32 0)) 23)).alloc (.cells (u8s (List.replicate 16 0)) 91)) (w.heap.size + 1) 91 (List.replicate 16 0) := by
    rw [show w.heap.size + 1 = (w.alloc (.cells (u8s (List.replicate 32 0)) 23)).heap.size by simp]; exact heap_alloc_new _ _
  rw [tabN_none, tabN_none]
  exact ⟨r0.alloc _, r1, ((Below.refl _ _).alloc (Nat.le_refl _) _).alloc (by simp) _⟩

end Go.Proofs.Ytecmagenlbnchaa
namespace Go.Proofs.Ytecmagenlbnchaa
set_option maxRecDepth 100000
open Go.RowKit

theorem byt_small {l : List Nat} (h : ∀ x ∈ l, x < 256) (i : Nat) : byt l i < 256 := by
  unfold byt
  rw [List.getD_eq_getElem?_getD]
  cases hq : l[i]? with
  | none => decide
  | some v => exact h v (List.mem_of_getElem? hq)
theorem tab_byt {l : List Nat} (h : l.length = 16) : tab (byt l) = l := by
  apply List.ext_getElem?
  intro i
  by_cases hi : i < 16
  · rw [tab_get _ hi]
    simp [byt, List.getD, h, hi]
  · rw [List.getElem?_eq_none (by rw [length_tab]; omega), List.getElem?_eq_none (by omega)]

end Go.Proofs.Ytecmagenlbnchaa
