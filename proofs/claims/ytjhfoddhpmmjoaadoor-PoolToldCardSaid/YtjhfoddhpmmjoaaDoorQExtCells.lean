/-
  A field of extents in memory: its cells. No condition.
-/
import Derived.Test.YtjhfoddhpmmjoaaDoorQExtPlain
import Derived.Deep.MidRow
namespace Go.Proofs.YtjhfoddhpmmjoaaDoor
set_option maxRecDepth 100000
open Go.RowKit

/-- A tenant's cell. -/
def tenF (x : Ten) (j : Nat) : Value := if j = 0 then .bool x.on else if j = 1 then .int .i64 (x.r : Int) else if j = 2 then .int .i64 (x.q : Int) else .int .i64 (x.c : Int)
def tenV (x : Ten) : List Value := [.bool x.on, .int .i64 (x.r : Int), .int .i64 (x.q : Int), .int .i64 (x.c : Int)]
def tensV (T : Nat → Ten) : List Value := (List.range 36).map fun i => tenF (T (i / 4)) (i % 4)
theorem tensV_length (T : Nat → Ten) : (tensV T).length = 36 := by simp [tensV]
theorem tensV_get (T : Nat → Ten) {t j : Nat} (ht : t < 9) (hj : j < 4) : (tensV T)[4 * t + j]? = some (tenF (T t) j) := by
  simp only [tensV, List.getElem?_map]
  rw [List.getElem?_range (by omega)]
  show some (tenF (T ((4 * t + j) / 4)) ((4 * t + j) % 4)) = _
  rw [show (4 * t + j) / 4 = t by omega, show (4 * t + j) % 4 = j by omega]
/-- A field's cells. -/
def fieldCells (p : Option Addr) (T : Nat → Ten) : Array Value := (Value.pointer p :: tensV T).toArray
def FieldB (w : World) (b : Nat) (p : Option Addr) (T : Nat → Ten) : Prop := w.heap[b]? = some (.cells (fieldCells p T) 68 (0, 0))
section
variable {w w' : World} {b : Nat} {p : Option Addr} {T : Nat → Ten}
theorem FieldB.lt (h : FieldB w b p T) : b < w.heap.size := lt_of_block h
theorem FieldB.row (h : FieldB w b p T) : w.cell? ⟨b, 0, none⟩ = some (.pointer p) := (cell_of_row _ _ 0 _ _ _ h).trans rfl
theorem FieldB.cell (h : FieldB w b p T) {t j : Nat} (ht : t < 9) (hj : j < 4) : w.cell? ⟨b, 1 + t * 4 + j, none⟩ = some (tenF (T t) j) := by
  rw [cell_of_row _ _ _ _ _ _ h]
  simp only [fieldCells, List.getElem?_toArray]
  rw [show 1 + t * 4 + j = (4 * t + j) + 1 by omega, List.getElem?_cons_succ]
  exact tensV_get T ht hj
theorem FieldB.on (h : FieldB w b p T) {t : Nat} (ht : t < 9) : w.cell? ⟨b, 1 + t * 4, none⟩ = some (.bool (T t).on) := h.cell (j := 0) ht (by decide)
theorem FieldB.r (h : FieldB w b p T) {t : Nat} (ht : t < 9) : w.cell? ⟨b, 1 + t * 4 + 1, none⟩ = some (.int .i64 ((T t).r : Int)) := h.cell (j := 1) ht (by decide)
theorem FieldB.q (h : FieldB w b p T) {t : Nat} (ht : t < 9) : w.cell? ⟨b, 1 + t * 4 + 2, none⟩ = some (.int .i64 ((T t).q : Int)) := h.cell (j := 2) ht (by decide)
theorem FieldB.c (h : FieldB w b p T) {t : Nat} (ht : t < 9) : w.cell? ⟨b, 1 + t * 4 + 3, none⟩ = some (.int .i64 ((T t).c : Int)) := h.cell (j := 3) ht (by decide)
theorem FieldB.frozen (h : FieldB w b p T) (k : Nat) : w.frozen? ⟨b, k, none⟩ = false := frozen_of_row _ _ _ _ _ h
theorem FieldB.other (h : FieldB w b p T) (e : w'.heap[b]? = w.heap[b]?) : FieldB w' b p T := e.trans h
/-- One cell of a tenant turned. -/
theorem FieldB.set (h : FieldB w b p T) {t j : Nat} (ht : t < 9) (hj : j < 4) {x : Ten} {v : Value} (hv : v = tenF x j) (hs : ∀ k, k < 4 → k ≠ j → tenF x k = tenF (T t) k) : FieldB (w.setCell ⟨b, 1 + t * 4 + j, none⟩ v) b p (setT T t x) := by
  unfold FieldB
  rw [heap_setCell_same _ _ _ _ _ _ h]
  congr 2
  unfold fieldCells
  rw [List.setIfInBounds_toArray, show 1 + t * 4 + j = (4 * t + j) + 1 by omega, List.set_cons_succ]
  congr 2
  apply List.ext_getElem?
  intro i
  rw [List.getElem?_set, tensV_length]
  by_cases hi : i < 36
  · have e : i = 4 * (i / 4) + i % 4 := by omega
    have g1 := tensV_get T (t := i / 4) (j := i % 4) (by omega) (by omega)
    have g2 := tensV_get (setT T t x) (t := i / 4) (j := i % 4) (by omega) (by omega)
    rw [← e] at g1 g2
    rw [g1, g2]
    by_cases h1 : 4 * t + j = i
    · rw [if_pos h1, if_pos (by omega), show i / 4 = t by omega, show i % 4 = j by omega, setT_same, hv]
    · rw [if_neg h1]
      by_cases h2 : i / 4 = t
      · rw [h2, setT_same, hs _ (by omega) (by omega)]
      · rw [setT_other T x h2]
  · rw [if_neg (by omega), List.getElem?_eq_none (by rw [tensV_length]; omega), List.getElem?_eq_none (by rw [tensV_length]; omega)]
theorem FieldB.bump (h : FieldB w b p T) {t : Nat} (ht : t < 9) (k : Nat) : FieldB (w.setCell ⟨b, 1 + t * 4 + 3, none⟩ (.int .i64 (k : Int))) b p (setT T t ⟨(T t).on, (T t).r, (T t).q, k⟩) :=
  h.set ht (by decide) rfl (fun i hi h3 => by
    rcases (show i = 0 ∨ i = 1 ∨ i = 2 by omega) with rfl | rfl | rfl <;> rfl)
theorem FieldB.limR (h : FieldB w b p T) {t : Nat} (ht : t < 9) (k : Nat) : FieldB (w.setCell ⟨b, 1 + t * 4 + 1, none⟩ (.int .i64 (k : Int))) b p (setT T t ⟨(T t).on, k, (T t).q, (T t).c⟩) :=
  h.set ht (by decide) rfl (fun i hi h3 => by
    rcases (show i = 0 ∨ i = 2 ∨ i = 3 by omega) with rfl | rfl | rfl <;> rfl)
theorem FieldB.limQ (h : FieldB w b p T) {t : Nat} (ht : t < 9) (k : Nat) : FieldB (w.setCell ⟨b, 1 + t * 4 + 2, none⟩ (.int .i64 (k : Int))) b p (setT T t ⟨(T t).on, (T t).r, k, (T t).c⟩) :=
  h.set ht (by decide) rfl (fun i hi h3 => by
    rcases (show i = 0 ∨ i = 1 ∨ i = 3 by omega) with rfl | rfl | rfl <;> rfl)
set_option maxRecDepth 100000 in
/-- A tenant read out of the array's value. -/
theorem run_tenant (T : Nat → Ten) {k : Nat} (hk : k < 9) (x : World) : (Instr.index 66 (.agg (tensV T).toArray) (.int .i64 (k : Int))).run Tryd.prog x = .ok (.agg #[.bool (T k).on, .int .i64 ((T k).r : Int), .int .i64 ((T k).q : Int), .int .i64 ((T k).c : Int)]) x := by
  have h1 : (0 : Int) ≤ k ∧ (k : Int) < ((9 : Nat) : Int) := by omega
  have hz : (sizeOf 65).run Tryd.prog x = .ok 4 x := by
    have h : (Tryd.prog.info? 65).map (·.size) = some 4 := by kernel_rfl
    cases hq : Tryd.prog.info? 65 with
    | none => simp [hq] at h
    | some i => simp [hq] at h; simp [sizeOf, typeInfo, hq, h]
  have hpart : (part 65 (tensV T).toArray (k * 4)).run Tryd.prog x = .ok (.agg ((tensV T).toArray.extract (k * 4) (k * 4 + 4))) x := by
    unfold part
    simp only [Sem.run_bind, isAgg, run_underlying Tryd.underlying65, Result.andThen_ok, Sem.run_pure, if_true, hz]
  simp only [Instr.index, Sem.run_bind, Sem.run_pure, asIntOf, Result.andThen_ok, run_underlying Tryd.underlying66, if_pos h1, hz, Int.toNat_natCast, hpart]
  congr 2
  apply Array.ext'
  rw [Array.toList_extract]
  apply List.ext_getElem?
  intro i
  by_cases hi : i < 4
  · have g := tensV_get T hk hi
    rw [List.extract_eq_take_drop, List.getElem?_take, if_pos (by omega), List.getElem?_drop, show k * 4 + i = 4 * k + i by omega]
    refine g.trans ?_
    rcases (show i = 0 ∨ i = 1 ∨ i = 2 ∨ i = 3 by omega) with rfl | rfl | rfl | rfl <;> rfl
  · rw [List.getElem?_eq_none (by rw [List.extract_eq_take_drop]; simp [tensV]; omega), List.getElem?_eq_none (by simp; omega)]
/-- The tenants' range. -/
theorem FieldB.tens (h : FieldB w b p T) : w.rangeAt b 1 (tensV T) := fun j v hv => by
  rw [cell_of_row _ _ _ _ _ _ h, Nat.add_comm 1 j]
  simp only [fieldCells, List.getElem?_toArray, List.getElem?_cons_succ]
  exact hv
theorem infoTens : (Tryd.prog.info? 66).map (·.size) = some 36 := by kernel_rfl
theorem infoTen : (Tryd.prog.info? 65).map (·.size) = some 4 := by kernel_rfl
theorem built_field (p : Option Addr) : Tryd.prog.built 68 [(0, .pointer p)] = some (fieldCells p (fun _ => Ten.no)) := by kernel_rfl
theorem setT_twice (T : Nat → Ten) (t : Nat) (x y : Ten) : setT (setT T t x) t y = setT T t y := by
  funext k
  unfold setT
  split <;> rfl
/-- A tenant stored whole. -/
theorem FieldB.all (h : FieldB w b p T) {t : Nat} (ht : t < 9) (x : Ten) : FieldB (w.setCells b (1 + t * 4) (tenV x)) b p (setT T t x) := by
  have h0 := h.set (x := ⟨x.on, (T t).r, (T t).q, (T t).c⟩) ht (j := 0) (by decide) rfl (fun i hi h3 => by
    rcases (show i = 1 ∨ i = 2 ∨ i = 3 by omega) with rfl | rfl | rfl <;> rfl)
  have h1 := h0.limR ht x.r
  have h2 := h1.limQ ht x.q
  have h3 := h2.bump ht x.c
  simp only [setT_same, setT_twice] at h1 h2 h3
  exact h3
end
end Go.Proofs.YtjhfoddhpmmjoaaDoor
