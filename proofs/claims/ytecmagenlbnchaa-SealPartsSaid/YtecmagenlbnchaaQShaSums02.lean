/-
  Layer 2's law: alive, Great. Conditions: the texts of Great are not too many.
  Layer 2's law ShaSums: every text has its sum. Condition: none but the texts' reading.
-/
import Derived.Test.YtecmagenlbnchaaQRefSumS
import Derived.Test.YtecmagenlbnchaaQQuiet
import Derived.Test.YtecmagenlbnchaaQStr
import Derived.Lib.SlBytesConst
import Derived.Deep.RegionHeldLaw
namespace Go.Proofs.Ytecmagenlbnchaa
set_option maxRecDepth 100000
open Go.RowKit

def sABC : List Nat := sumOf [97, 98, 99]
def sNil : List Nat := sumOf []
theorem abc_head : sABC.take 4 = [186, 120, 22, 191] := by decide +kernel
theorem nil_head : sNil.take 2 = [227, 176] := by decide +kernel
theorem take_get {l m : List Nat} {n i : Nat} (h : l.take n = m) (hi : i < n) : l[i]? = m[i]? := by
  rw [← h, List.getElem?_take, if_pos hi]


theorem size_s (t : List Nat) : (Try.prog.info? 125).map (·.size) = some (u8s (sumOf t)).size := by
  have e : (Try.prog.info? 125).map (·.size) = some 32 := by kernel_rfl
  rw [size_sumOf]; exact e
theorem one_s (t : List Nat) : (u8s (sumOf t)).all (·.oneCell') = true := by simp [u8s, Value.oneCell']

/-- The bytes of a literal, in a block just made and marked. -/
theorem lit_bytes {w : World} {fr : Nat × Nat} {ty : TypeId} {n : Nat} (t : List Nat) (hs : ∀ x ∈ t, x < 256) (hn : t.length = n) : BytesAt (w.alloc (.cells (u8s t) ty fr)) (some ⟨w.heap.size, 0, none⟩) n (byt t) := fun i hi => by
  refine ⟨byt_lt hs i, w.heap.size, 0, rfl, ?_⟩
  rw [Nat.zero_add, cell_of_row _ _ _ _ _ _ (heap_alloc_new _ _)]
  simp [u8s, byt, List.getD, show i < t.length by omega]


end Go.Proofs.Ytecmagenlbnchaa
namespace Go.Proofs.Ytecmagenlbnchaa
set_option maxRecDepth 100000
open Go.RowKit

theorem great_small {ls : List (List Nat)} (h : (decide (12 < ls.length) || ls.any fun t => decide (400 < t.length)) = false) : ls.length ≤ 12 ∧ (∀ t ∈ ls, t.length ≤ 400) ∧ ls.flatten.length ≤ 4800 := by
  simp only [Bool.or_eq_false_iff, decide_eq_false_iff_not, List.any_eq_false, decide_eq_true_eq] at h
  obtain ⟨h1, h2⟩ := h
  have h3 : ∀ l : List (List Nat), (∀ t ∈ l, t.length ≤ 400) → l.flatten.length ≤ 400 * l.length := fun l => by
    induction l with
    | nil => intro _; simp
    | cons a l ih =>
      intro hl
      have := hl a (by simp)
      have := ih fun t ht => hl t (by simp [ht])
      simp only [List.flatten_cons, List.length_append, List.length_cons]; omega
  have h4 : ∀ t ∈ ls, t.length ≤ 400 := fun t ht => by have := h2 t ht; omega
  have := h3 ls h4
  exact ⟨by omega, h4, by omega⟩

/-- A row of bytes, cut whole, is a text. -/
theorem RowB.text {w : World} {b ty : Nat} {t : List Nat} (h : RowB w b ty t) (hs : ∀ x ∈ t, x < 256) {n : Nat} (hn : t.length = n) : TextAt w (.slice (some ⟨b, 0, none⟩) n n) t :=
  ⟨_, n, by rw [hn], by omega, fun e => by simp at e, fun i hi => ⟨byt_lt hs i, b, 0, rfl, by rw [Nat.zero_add]; exact h.byt hi⟩⟩
theorem sum_text {w : World} {b ty : Nat} (t : List Nat) (h : RowB w b ty (sumOf t)) : (convert 25 9 (.slice (some ⟨b, 0, none⟩) 32 32)).run Try.prog w = .ok (.string (strOf (sumOf t))) w :=
  run_str (h.text (sumOf_lt t) (length_sumOf t))

theorem sumf_text (w : World) (v : Value) (t : List Nat) (h : TextAt w v t) (hl : t.length < 1000000000) :
    Calls Try.prog 106 #[v] w fun e w' => e = .returned (.agg (u8s (sumOf t))) ∧ Below w.heap.size w w' := by
  obtain ⟨ao, cap, rfl, h1, h2, h3⟩ := h.ex
  exact sumf_any w ao cap t h1 h3 h2 hl
theorem flat_lt {w : World} {ao : Option Addr} {ls : List (List Nat)} (h : TextsAt w ao ls) : ∀ x ∈ ls.flatten, x < 256 := by
  intro x hx
  obtain ⟨t, ht, hxt⟩ := List.mem_flatten.1 hx
  obtain ⟨i, hi, rfl⟩ := List.mem_iff_getElem.1 ht
  obtain ⟨ob, oo, _, ai, ci, _, _, hb, _⟩ := h i hi
  have e : ls.getD i [] = ls[i] := by simp [List.getD, hi]
  rw [e] at hb
  obtain ⟨j, hj, rfl⟩ := List.mem_iff_getElem.1 hxt
  have := (hb j hj).1
  simpa [byt, List.getD, hj] using this
theorem info_sum (t : List Nat) : (Try.prog.info? 125).map (·.size) = some (u8s (sumOf t)).size := size_s t
/-- Two sums in their blocks. -/
def Sums2 (w : World) (x y : Nat) (s t : List Nat) : Prop := RowB w x 125 (sumOf s) ∧ RowB w y 125 (sumOf t)
theorem Sums2.below {w w' : World} {x y : Nat} {s t : List Nat} (h : Sums2 w x y s t) (hB : Below w.heap.size w w') : Sums2 w' x y s t :=
  ⟨h.1.other (hB.block _ h.1.lt), h.2.other (hB.block _ h.2.lt)⟩
/-- .. and what they are as strings. -/
def Strs2 (x y : Nat) (s t : List Nat) (w : World) : Prop :=
  (convert 25 9 (.slice (some ⟨x, 0, none⟩) 32 32)).run Try.prog w = .ok (.string (strOf (sumOf s))) w ∧ (convert 25 9 (.slice (some ⟨y, 0, none⟩) 32 32)).run Try.prog w = .ok (.string (strOf (sumOf t))) w
theorem Sums2.strs {w : World} {x y : Nat} {s t : List Nat} (h : Sums2 w x y s t) : Strs2 x y s t w := ⟨sum_text s h.1, sum_text t h.2⟩


end Go.Proofs.Ytecmagenlbnchaa
