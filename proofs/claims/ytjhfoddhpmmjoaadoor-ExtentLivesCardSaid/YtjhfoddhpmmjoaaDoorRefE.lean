/-
  The reference of layer 17: a field of extents in its own blocks; what only reads. Condition: the blocks are its own.
-/
import Derived.Test.YtjhfoddhpmmjoaaDoorOwned
namespace Go.Proofs.YtjhfoddhpmmjoaaDoor
set_option maxRecDepth 100000
open Go.RowKit

def qCells (hd : Value) (T : Nat → Ten) : Array Value := (hd :: tensV T).toArray
/-- The reference's field. -/
structure RefE (w : World) (c cl n : Nat) (L : Nat → Nat) (T : Nat → Ten) : Prop where
  f : w.heap[c]? = some (.cells (qCells (.slice (some ⟨cl, 0, none⟩) n n) T) 60 (0, 0))
  ints : w.heap[cl]? = some (.cells (intsC (fun i => (L i : Int)) n) 3 (0, 0))
  ne : c ≠ cl
  good : Good n L T
  small : n ≤ 2048
  lo : 1 ≤ n
section
variable {w w' : World} {c cl n : Nat} {L L' : Nat → Nat} {T T' : Nat → Ten}
theorem RefE.stay (h : RefE w c cl n L T) {S : Nat → Prop} (u : Upd S w w') (h1 : ¬ S c) (h2 : ¬ S cl) : RefE w' c cl n L T := ⟨u.at h.f h1, u.at h.ints h2, h.ne, h.good, h.small, h.lo⟩
theorem RefE.below (h : RefE w c cl n L T) (hB : Below w.heap.size w w') : RefE w' c cl n L T := h.stay (S := fun _ => False) (Upd.of_below hB) id id
theorem RefE.drew (h : RefE w c cl n L T) : RefE w.drew c cl n L T := h.below (Below.refl _ _).drew
theorem RefE.l (h : RefE w c cl n L T) : w.cell? ⟨c, 0, none⟩ = some (.slice (some ⟨cl, 0, none⟩) n n) := (cell_of_row _ _ 0 _ _ _ h.f).trans rfl
theorem RefE.at (h : RefE w c cl n L T) {j : Nat} (hj : j < n) : w.cell? ⟨cl, j, none⟩ = some (.int .i64 (L j)) := by rw [cell_of_row _ _ _ _ _ _ h.ints, intsC_get _ hj]
theorem RefE.cell (h : RefE w c cl n L T) {t j : Nat} (ht : t < 9) (hj : j < 4) : w.cell? ⟨c, 1 + t * 4 + j, none⟩ = some (tenF (T t) j) := by
  rw [cell_of_row _ _ _ _ _ _ h.f]
  simp only [qCells, List.getElem?_toArray]
  rw [show 1 + t * 4 + j = (4 * t + j) + 1 by omega, List.getElem?_cons_succ]
  exact tensV_get T ht hj
theorem RefE.on (h : RefE w c cl n L T) {t : Nat} (ht : t < 9) : w.cell? ⟨c, 1 + t * 4, none⟩ = some (.bool (T t).on) := h.cell (j := 0) ht (by decide)
theorem RefE.r (h : RefE w c cl n L T) {t : Nat} (ht : t < 9) : w.cell? ⟨c, 1 + t * 4 + 1, none⟩ = some (.int .i64 ((T t).r : Int)) := h.cell (j := 1) ht (by decide)
theorem RefE.q (h : RefE w c cl n L T) {t : Nat} (ht : t < 9) : w.cell? ⟨c, 1 + t * 4 + 2, none⟩ = some (.int .i64 ((T t).q : Int)) := h.cell (j := 2) ht (by decide)
theorem RefE.chg (h : RefE w c cl n L T) {t : Nat} (ht : t < 9) : w.cell? ⟨c, 1 + t * 4 + 3, none⟩ = some (.int .i64 ((T t).c : Int)) := h.cell (j := 3) ht (by decide)
theorem RefE.frozen (h : RefE w c cl n L T) (k : Nat) : w.frozen? ⟨c, k, none⟩ = false := frozen_of_row _ _ _ _ _ h.f
theorem RefE.frozenL (h : RefE w c cl n L T) (k : Nat) : w.frozen? ⟨cl, k, none⟩ = false := frozen_of_row _ _ _ _ _ h.ints
/-- A tenant read whole. -/
theorem RefE.ten (h : RefE w c cl n L T) {t : Nat} (ht : t < 9) : w.rangeAt c (1 + t * 4) (tenV (T t)) := fun j v hv => by
  have hj : j < 4 := by
    have := (List.getElem?_eq_some_iff.1 hv).1
    simpa [tenV] using this
  rw [h.cell ht hj, ← hv]
  rcases (show j = 0 ∨ j = 1 ∨ j = 2 ∨ j = 3 by omega) with rfl | rfl | rfl | rfl <;> rfl
end
theorem infoQTen (x : Ten) : (Tryd.prog.info? 57).map (·.size) = some (tenV x).length := by
  have h : (Tryd.prog.info? 57).map (·.size) = some 4 := by kernel_rfl
  exact h
set_option maxRecDepth 100000 in
theorem qnew_bad (w : World) (n : Int) (h : n < 1 ∨ 2048 < n) :
    Calls Tryd.prog 23 #[.int .i64 n] w fun e w' => e = .returned (.tuple #[.pointer none, .int .i64 1]) ∧ w = w' := by
  have dd : decide (n < 1) = true ∨ (decide (n < 1) = false ∧ decide (n > 2048) = true) := by
    simp only [decide_eq_true_eq, decide_eq_false_iff_not]; omega
  rcases dd with d1 | ⟨d1, d2⟩
  · go_enter Tryd.func23, Tryd.ntmps23
    go_wp2_with fail
    go_ret2
    exact ⟨rfl, rfl⟩
  · go_enter Tryd.func23, Tryd.ntmps23
    go_wp2_with fail
    go_ret2
    exact ⟨rfl, rfl⟩
theorem built_q (p : Option Addr) (a b : Nat) : Tryd.prog.built 60 [(0, .slice p a b)] = some (qCells (.slice p a b) (fun _ => Ten.no)) := by kernel_rfl
set_option maxRecDepth 100000 in
theorem qnew_ok (w : World) (n : Nat) (h1 : 1 ≤ n) (h2 : n ≤ 2048) :
    Calls Tryd.prog 23 #[.int .i64 (n : Int)] w fun e w' => ∃ c cl, w.heap.size ≤ c ∧ w.heap.size ≤ cl ∧ e = .returned (.tuple #[.pointer (some ⟨c, 0, none⟩), .int .i64 0]) ∧ RefE w' c cl n (fun _ => 0) (fun _ => Ten.no) ∧ Below w.heap.size w w' := by
  have d1 : decide ((n : Int) < 1) = false := decide_eq_false (by omega)
  have d2 : decide ((n : Int) > 2048) = false := decide_eq_false (by omega)
  have hmk := run_make_row' (P := Tryd.prog) 29 3 (.int .i64 0) 8 Tryd.underlying29 infoInt17 rfl .i64 .i64 n (by omega) (by omega)
  have hr : RefE ((w.alloc (.cells (madeCells #[.int .i64 0] n) 3)).alloc (.cells (qCells (.slice (some ⟨w.heap.size, 0, none⟩) n n) (fun _ => Ten.no)) 60)) (w.heap.size + 1) w.heap.size n (fun _ => 0) (fun _ => Ten.no) := by
    refine ⟨?_, ?_, by omega, Good.begin n, h2, h1⟩
    · exact heap_alloc2_new _ _ _
    · rw [heap_alloc_old (h := by simp), heap_alloc_new, ints_zero17]; rfl
  have hB : Below w.heap.size w ((w.alloc (.cells (madeCells #[.int .i64 0] n) 3)).alloc (.cells (qCells (.slice (some ⟨w.heap.size, 0, none⟩) n n) (fun _ => Ten.no)) 60)) := ((Below.refl _ _).alloc (Nat.le_refl _) _).alloc (by simp) _
  have bq := Lib.hid (fun p a b => built_q p a b)
  replace hr := Lib.hid hr
  replace hB := Lib.hid hB
  go_enter Tryd.func23, Tryd.ntmps23
  go_wp2_with fail
  go_ret2
  exact ⟨w.heap.size + 1, by omega, w.heap.size, by omega, rfl, hr.out, hB.out⟩
set_option maxRecDepth 100000 in
theorem qpart_any (w : World) (x : Ten) :
    Calls Tryd.prog 60 #[.agg (tenV x).toArray] w fun e w' => e = .returned (.int .i64 ((max x.r x.c : Nat) : Int)) ∧ Below w.heap.size w w' := by
  have B : Below w.heap.size w (w.alloc (.cells (tenV x).toArray 57)) := (Below.refl _ _).alloc (Nat.le_refl _) _
  by_cases h : x.r < x.c
  · rw [Nat.max_eq_right (by omega)]
    have d : decide ((x.c : Int) > (x.r : Int)) = true := decide_eq_true (by omega)
    replace B := Lib.hid B
    unfold tenV at *
    go_enter Tryd.func60, Tryd.ntmps60
    go_wp2_with fail
    go_ret
    exact ⟨rfl, B.out⟩
  · rw [Nat.max_eq_left (by omega)]
    have d : decide ((x.c : Int) > (x.r : Int)) = false := decide_eq_false (by omega)
    replace B := Lib.hid B
    unfold tenV at *
    go_enter Tryd.func60, Tryd.ntmps60
    go_wp2_with fail
    go_ret
    exact ⟨rfl, B.out⟩
section
variable {w : World} {c cl n : Nat} {L : Nat → Nat} {T : Nat → Ten}
set_option maxRecDepth 100000 in
theorem qin_any (h : RefE w c cl n L T) (t : Int) :
    Calls Tryd.prog 27 #[.pointer (some ⟨c, 0, none⟩), .int .i64 t] w fun e w' => e = .returned (.bool (isIn T t)) ∧ w = w' := by
  have dd : (decide (t ≥ 1) = false ∧ isIn T t = false) ∨ (decide (t ≥ 1) = true ∧ decide (t ≤ 8) = false ∧ isIn T t = false) ∨ (∃ k : Nat, t = (k : Int) ∧ 1 ≤ k ∧ k < 9) := by
    unfold isIn
    by_cases h1 : t < 1
    · left; exact ⟨decide_eq_false (by omega), by rw [decide_eq_false (by omega)]; rfl⟩
    · right
      by_cases h2 : 8 < t
      · left; exact ⟨decide_eq_true (by omega), decide_eq_false (by omega), by rw [decide_eq_false (by omega)]; rfl⟩
      · right; exact ⟨t.toNat, by omega, by omega, by omega⟩
  rcases dd with ⟨d1, e⟩ | ⟨d1, d2, e⟩ | ⟨k, rfl, k1, k9⟩
  · rw [e]
    replace h := Lib.hid h
    go_enter Tryd.func27, Tryd.ntmps27
    go_wp2_with fail
    go_ret
    exact ⟨rfl, rfl⟩
  · rw [e]
    replace h := Lib.hid h
    go_enter Tryd.func27, Tryd.ntmps27
    go_wp2_with fail
    go_ret
    exact ⟨rfl, rfl⟩
  · rw [isIn_nat k1 k9]
    have d1 : decide ((k : Int) ≥ 1) = true := decide_eq_true (by omega)
    have d2 : decide ((k : Int) ≤ 8) = true := decide_eq_true (by omega)
    have d3 : 0 ≤ (k : Int) ∧ (k : Int) < 9 := by omega
    have c1 := h.on k9
    generalize (T k).on = x at *
    replace h := Lib.hid h
    go_enter Tryd.func27, Tryd.ntmps27
    go_wp2_with fail
    go_ret
    exact ⟨rfl, rfl⟩
set_option maxRecDepth 100000 in
theorem qthere_any (h : RefE w c cl n L T) (x : Nat) (hx : x < 4294967296) :
    Calls Tryd.prog 77 #[.pointer (some ⟨c, 0, none⟩), .int .u32 (x : Int)] w fun e w' => e = .returned (.bool (decide (x < n))) ∧ w = w' := by
  have c0 := h.l
  have hsm := h.small
  have d1 : IntKind.u64.wrap (x : Int) = (x : Int) := IntWalk.u64_in _ (by omega)
  have d2 : IntKind.u64.wrap (n : Int) = (n : Int) := IntWalk.u64_in _ (by omega)
  have d3 : decide ((x : Int) < (n : Int)) = decide (x < n) := by
    by_cases e : x < n
    · rw [decide_eq_true e, decide_eq_true (by omega)]
    · rw [decide_eq_false e, decide_eq_false (by omega)]
  replace h := Lib.hid h
  go_enter Tryd.func77, Tryd.ntmps77
  go_wp2_with fail
  go_ret
  exact ⟨rfl, rfl⟩
set_option maxRecDepth 100000 in
theorem qwrong_any (h : RefE w c cl n L T) (t r q : Int) :
    Calls Tryd.prog 75 #[.pointer (some ⟨c, 0, none⟩), .int .i64 t, .int .i64 r, .int .i64 q] w fun e w' => e = .returned (.bool (badLim n t r q)) ∧ w = w' := by
  have c0 := h.l
  have hsm := h.small
  have dd : (decide (t < 1) = true ∧ badLim n t r q = true) ∨ (decide (t < 1) = false ∧ decide (t > 8) = true ∧ badLim n t r q = true) ∨ (decide (t < 1) = false ∧ decide (t > 8) = false ∧ decide (r < 0) = true ∧ badLim n t r q = true) ∨
      (decide (t < 1) = false ∧ decide (t > 8) = false ∧ decide (r < 0) = false ∧ decide (q < r) = true ∧ badLim n t r q = true) ∨ (decide (t < 1) = false ∧ decide (t > 8) = false ∧ decide (r < 0) = false ∧ decide (q < r) = false ∧ decide (q > (n : Int)) = true ∧ badLim n t r q = true) ∨
      (decide (t < 1) = false ∧ decide (t > 8) = false ∧ decide (r < 0) = false ∧ decide (q < r) = false ∧ decide (q > (n : Int)) = false ∧ badLim n t r q = false) := by
    unfold badLim
    simp only [decide_eq_true_eq, decide_eq_false_iff_not]
    omega
  replace h := Lib.hid h
  rcases dd with ⟨d1, e⟩ | ⟨d1, d2, e⟩ | ⟨d1, d2, d3, e⟩ | ⟨d1, d2, d3, d4, e⟩ | ⟨d1, d2, d3, d4, d5, e⟩ | ⟨d1, d2, d3, d4, d5, e⟩
  all_goals
    rw [e]
    clear e
    go_enter Tryd.func75, Tryd.ntmps75
    go_wp2_with fail
    go_ret
    exact ⟨rfl, rfl⟩
end
end Go.Proofs.YtjhfoddhpmmjoaaDoor
