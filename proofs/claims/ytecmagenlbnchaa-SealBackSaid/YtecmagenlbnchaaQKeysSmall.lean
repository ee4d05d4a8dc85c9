/-
  keys: stamps, their parts, counters. Conditions: numbers of their kind; the counter lies in a block of its own.
-/
import Derived.Test.YtecmagenlbnchaaQOctetPut
import Derived.Test.YtecmagenlbnchaaQHeld
namespace Go.Proofs.Ytecmagenlbnchaa
set_option maxRecDepth 100000
open Go.RowKit

def stampOf (e c : Nat) : Nat := 1099511627776 * e + c
theorem stamp_parts {e c : Nat} (hc : c < 1099511627776) : stampOf e c / 1099511627776 = e ∧ stampOf e c % 1099511627776 = c := by unfold stampOf; omega
theorem stamp_of (s : Nat) : stampOf (s / 1099511627776) (s % 1099511627776) = s := by unfold stampOf; omega
theorem stamp_inj {a b c d : Nat} (hb : b < 1099511627776) (hd : d < 1099511627776) : stampOf a b = stampOf c d ↔ a = c ∧ b = d := by unfold stampOf; omega
theorem stamp_lt {e c : Nat} (he : e < 16777216) (hc : c < 1099511627776) : stampOf e c < 18446744073709551616 := by unfold stampOf; omega
theorem stamp_or {e c : Nat} (he : e < 16777216) (hc : c < 1099511627776) : bits .or .u64 ((e : Int) * 1099511627776) (c : Int) = (stampOf e c : Int) := by
  have e1 : ((e : Int) * 1099511627776) = ((e * 1099511627776 : Nat) : Int) := by simp
  rw [e1, u64_or_nat _ _ (by omega) (by omega)]
  have h := Nat.two_pow_add_eq_or_of_lt (i := 40) (b := c) (by simpa using hc) e
  rw [show e * 1099511627776 = 2 ^ 40 * e by omega, ← h]
  unfold stampOf
  congr 1
theorem stamp_and {s : Nat} (hs : s < 18446744073709551616) : bits .and .u64 (s : Int) 1099511627775 = ((s % 1099511627776 : Nat) : Int) := by
  rw [show (1099511627775 : Int) = ((1099511627775 : Nat) : Int) from rfl, u64_and_nat _ _ hs (by decide)]
  have h := Nat.and_two_pow_sub_one_eq_mod s 40
  rw [show (1099511627775 : Nat) = 2 ^ 40 - 1 by decide, h]
theorem div_cast (s : Nat) : ((s : Int) / 1099511627776) = ((s / 1099511627776 : Nat) : Int) := by simp

set_option maxRecDepth 100000 in
theorem parts_any (w : World) (s : Nat) (hs : s < 18446744073709551616) :
    Calls Try.prog 26 #[.int .u64 (s : Int)] w fun e w' => e = .returned (.tuple #[.int .u64 ((s / 1099511627776 : Nat) : Int), .int .u64 ((s % 1099511627776 : Nat) : Int)]) ∧ w = w' := by
  have h1 := stamp_and hs
  have h2 := div_cast s
  replace h1 := Lib.hid h1
  replace h2 := Lib.hid h2
  go_enter Try.func26, Try.ntmps26
  go_wp2_with fail
  rw [h1.out, h2.out]
  go_ret2
  exact ⟨rfl, rfl⟩
/-- What Stamp says: may it be? -/
def stampE (e c : Nat) : Int := if e < 16777216 ∧ c < 1099511627776 then 0 else 5
def stampV (e c : Nat) : Nat := if e < 16777216 ∧ c < 1099511627776 then stampOf e c else 0
set_option maxRecDepth 100000 in
theorem stamp_ok (w : World) (e c : Nat) (he : e < 16777216) (hc : c < 1099511627776) :
    Calls Try.prog 27 #[.int .u64 (e : Int), .int .u64 (c : Int)] w fun x w' => x = .returned (.tuple #[.int .u64 (stampOf e c : Int), .int .i64 0]) ∧ w = w' := by
  have h1 := stamp_or he hc
  replace h1 := Lib.hid h1
  go_enter Try.func27, Try.ntmps27
  go_wp2_with fail
  rw [h1.out]
  go_ret2
  exact ⟨rfl, rfl⟩
set_option maxRecDepth 100000 in
theorem stamp_any (w : World) (e c : Nat) (he : e < 18446744073709551616) (hc : c < 18446744073709551616) :
    Calls Try.prog 27 #[.int .u64 (e : Int), .int .u64 (c : Int)] w fun x w' => x = .returned (.tuple #[.int .u64 (stampV e c : Int), .int .i64 (stampE e c)]) ∧ w = w' := by
  unfold stampV stampE
  by_cases h : e < 16777216 ∧ c < 1099511627776
  · rw [if_pos h, if_pos h]
    exact stamp_ok w e c h.1 h.2
  · rw [if_neg h, if_neg h]
    by_cases h1 : e < 16777216
    · have d1 : decide ((e : Int) > 16777215) = false := decide_eq_false (by omega)
      have d2 : decide ((c : Int) > 1099511627775) = true := decide_eq_true (by omega)
      go_enter Try.func27, Try.ntmps27
      go_wp2_with fail
      go_ret2
      exact ⟨rfl, rfl⟩
    · have d1 : decide ((e : Int) > 16777215) = true := decide_eq_true (by omega)
      go_enter Try.func27, Try.ntmps27
      go_wp2_with fail
      go_ret2
      exact ⟨rfl, rfl⟩

/-! ### Counters -/
/-- A counter of epoch e that told c stamps. -/
def CountAt (w : World) (b e c : Nat) : Prop := w.heap[b]? = some (.cells #[.bool true, .int .u64 (e : Int), .int .u64 (c : Int)] 71 (0, 0))
theorem CountAt.lt {w : World} {b e c : Nat} (h : CountAt w b e c) : b < w.heap.size := lt_of_block h
theorem CountAt.below {w w' : World} {b e c n : Nat} (h : CountAt w b e c) (hB : Below n w w') (hn : b < n) : CountAt w' b e c := (hB.block b hn).trans h
set_option maxRecDepth 100000 in
theorem count_ok (w : World) (e : Nat) (he : e < 16777216) :
    Calls Try.prog 18 #[.int .u64 (e : Int)] w fun x w' => ∃ b, x = .returned (.tuple #[.pointer (some ⟨b, 0, none⟩), .int .i64 0]) ∧ w.heap.size ≤ b ∧ CountAt w' b e 0 ∧ Below w.heap.size w w' := by
  have d1 : decide ((e : Int) > 16777215) = false := decide_eq_false (by omega)
  go_enter Try.func18, Try.ntmps18
  go_wp2_with fail
  go_ret2
  exact ⟨_, rfl, Nat.le_refl _, heap_alloc_new _ _, (Below.refl _ _).alloc (Nat.le_refl _) _⟩
set_option maxRecDepth 100000 in
theorem count_bad (w : World) (e : Nat) (he : ¬ e < 16777216) :
    Calls Try.prog 18 #[.int .u64 (e : Int)] w fun x w' => x = .returned (.tuple #[.pointer none, .int .i64 5]) ∧ w = w' := by
  have d1 : decide ((e : Int) > 16777215) = true := decide_eq_true (by omega)
  go_enter Try.func18, Try.ntmps18
  go_wp2_with fail
  go_ret2
  exact ⟨rfl, rfl⟩
set_option maxRecDepth 100000 in
theorem next_any (w : World) (b e c : Nat) (he : e < 16777216) (hc : c < 1099511627775) (h : CountAt w b e c) :
    Calls Try.prog 25 #[.pointer (some ⟨b, 0, none⟩)] w fun x w' => x = .returned (.tuple #[.int .u64 (stampOf e (c + 1) : Int), .int .i64 0]) ∧ CountAt w' b e (c + 1) ∧ Upd (fun i => i = b) w w' := by
  have c0 : w.cell? ⟨b, 0, none⟩ = some (.bool true) := (cell_of_row _ _ 0 _ _ _ h).trans rfl
  have c2 : w.cell? ⟨b, 2, none⟩ = some (.int .u64 (c : Int)) := (cell_of_row _ _ 2 _ _ _ h).trans rfl
  have f2 : w.frozen? ⟨b, 2, none⟩ = false := frozen_of_row _ _ _ _ _ h
  have n1 : ((c : Int) == 1099511627775) = false := beq_eq_false_iff_ne.2 (by omega)
  have hr : CountAt (w.setCell ⟨b, 2, none⟩ (.int .u64 ((c : Int) + 1))) b e (c + 1) := by
    unfold CountAt
    rw [heap_setCell_same _ _ _ _ _ _ h]
    rfl
  have hU : Upd (fun i => i = b) w (w.setCell ⟨b, 2, none⟩ (.int .u64 ((c : Int) + 1))) := (Upd.refl _ _).setCell _ _ (fun _ => rfl)
  have sc := fun wx => stamp_ok wx e (c + 1) he (by omega)
  rw [show (((c + 1 : Nat) : Int)) = (c : Int) + 1 by omega] at sc
  have s1 : (w.setCell ⟨b, 2, none⟩ (.int .u64 ((c : Int) + 1))).drew.cell? ⟨b, 1, none⟩ = some (.int .u64 (e : Int)) := (cell_of_row _ _ 1 _ _ _ hr).trans rfl
  have s2 : (w.setCell ⟨b, 2, none⟩ (.int .u64 ((c : Int) + 1))).drew.cell? ⟨b, 2, none⟩ = some (.int .u64 ((c : Int) + 1)) := (cell_of_row _ _ 2 _ _ _ hr).trans (by simp)
  replace h := Lib.hid h
  replace hr := Lib.hid hr
  replace hU := Lib.hid hU
  replace sc := Lib.hid sc
  go_enter Try.func25, Try.ntmps25
  go_wp2_with fail
  refine wp_region_held_drew (S := (fun w' => w'.cell? ⟨b, 1, none⟩ = some (.int .u64 (e : Int)) ∧ w'.cell? ⟨b, 2, none⟩ = some (.int .u64 ((c : Int) + 1)))) (by kernel_rfl) (⟨s1, s2⟩) (fun hHeld => ?_)
  refine held_take (i := 0) (v := ?_) rfl (by kernel_rfl) (by kernel_rfl) (by kernel_rfl) (fun _ _ _ h => h) (Or.inl ⟨by rfl, ?_⟩) (by assumption) ?_
  rotate_left
  · intro w hSw; (try dsimp only at hSw); go_simp; try with_reducible rfl
  try simp only [Act.put, List.setIfInBounds_toArray, List.set_cons_zero, List.set_cons_succ]
  refine held_take (i := 1) (v := ?_) rfl (by kernel_rfl) (by kernel_rfl) (by kernel_rfl) (fun _ _ _ h => h) (Or.inl ⟨by rfl, ?_⟩) (by assumption) ?_
  rotate_left
  · intro w hSw; (try dsimp only at hSw); go_simp; try with_reducible rfl
  try simp only [Act.put, List.setIfInBounds_toArray, List.set_cons_zero, List.set_cons_succ]
  refine held_take (i := 2) (v := ?_) rfl (by kernel_rfl) (by kernel_rfl) (by kernel_rfl) (fun _ _ _ h => h) (Or.inl ⟨by rfl, ?_⟩) (by assumption) ?_
  rotate_left
  · intro w hSw; (try dsimp only at hSw); go_simp; try with_reducible rfl
  try simp only [Act.put, List.setIfInBounds_toArray, List.set_cons_zero, List.set_cons_succ]
  refine held_take (i := 3) (v := ?_) rfl (by kernel_rfl) (by kernel_rfl) (by kernel_rfl) (fun _ _ _ h => h) (Or.inl ⟨by rfl, ?_⟩) (by assumption) ?_
  rotate_left
  · intro w hSw; (try dsimp only at hSw); go_simp; try with_reducible rfl
  try simp only [Act.put, List.setIfInBounds_toArray, List.set_cons_zero, List.set_cons_succ]
  refine held_take (i := 4) (v := ?_) rfl (by kernel_rfl) (by kernel_rfl) (by kernel_rfl) (fun _ _ _ h => h) (Or.inl ⟨by rfl, ?_⟩) (by assumption) ?_
  rotate_left
  · intro w hSw; (try dsimp only at hSw); go_simp; try with_reducible rfl
  try simp only [Act.put, List.setIfInBounds_toArray, List.set_cons_zero, List.set_cons_succ]
  refine held_take (i := 5) (v := ?_) rfl (by kernel_rfl) (by kernel_rfl) (by kernel_rfl) (fun _ _ _ h => h) (Or.inl ⟨by rfl, ?_⟩) (by assumption) ?_
  rotate_left
  · intro w hSw; (try dsimp only at hSw); go_simp; try with_reducible rfl
  try simp only [Act.put, List.setIfInBounds_toArray, List.set_cons_zero, List.set_cons_succ]
  refine held_take (i := 6) (v := ?_) rfl (by kernel_rfl) (by kernel_rfl) (by kernel_rfl) (fun _ _ _ h => h) (Or.inl ⟨by rfl, ?_⟩) (by assumption) ?_
  rotate_left
  · intro w hSw; (try dsimp only at hSw); go_simp; try with_reducible rfl
  try simp only [Act.put, List.setIfInBounds_toArray, List.set_cons_zero, List.set_cons_succ]
  refine held_take (i := 7) (v := ?_) rfl (by kernel_rfl) (by kernel_rfl) (by kernel_rfl) (fun _ _ _ h => h) (Or.inl ⟨by rfl, ?_⟩) (by assumption) ?_
  rotate_left
  · intro w hSw; (try dsimp only at hSw); go_simp; try with_reducible rfl
  try simp only [Act.put, List.setIfInBounds_toArray, List.set_cons_zero, List.set_cons_succ]
  refine held_ready (i := 8) rfl (by kernel_rfl) (fun K hK => ?_)
  go_simp
  refine (sc.out _).mono ?_
  rintro x w3 ⟨rfl, rfl⟩
  refine hK.out _ _ (⟨s1, s2⟩) (fun hHeldN => ?_)
  clear hHeld hK K
  have hHeld := hHeldN
  clear hHeldN
  try simp only [Act.put, List.setIfInBounds_toArray, List.set_cons_zero, List.set_cons_succ]
  refine held_take (i := 9) (v := ?_) rfl (by kernel_rfl) (by kernel_rfl) (by kernel_rfl) (fun _ _ _ h => h) (Or.inl ⟨by rfl, ?_⟩) (by assumption) ?_
  rotate_left
  · intro w hSw; (try dsimp only at hSw); go_simp; try with_reducible rfl
  try simp only [Act.put, List.setIfInBounds_toArray, List.set_cons_zero, List.set_cons_succ]
  refine held_take (i := 10) (v := ?_) rfl (by kernel_rfl) (by kernel_rfl) (by kernel_rfl) (fun _ _ _ h => h) (Or.inl ⟨by rfl, ?_⟩) (by assumption) ?_
  rotate_left
  · intro w hSw; (try dsimp only at hSw); go_simp; try with_reducible rfl
  try simp only [Act.put, List.setIfInBounds_toArray, List.set_cons_zero, List.set_cons_succ]
  refine held_take (i := 11) (v := ?_) rfl (by kernel_rfl) (by kernel_rfl) (by kernel_rfl) (fun _ _ _ h => h) (Or.inl ⟨by rfl, ?_⟩) (by assumption) ?_
  rotate_left
  · intro w hSw; (try dsimp only at hSw); go_simp; try with_reducible rfl
  try simp only [Act.put, List.setIfInBounds_toArray, List.set_cons_zero, List.set_cons_succ]
  refine held_take (i := 12) (v := ?_) rfl (by kernel_rfl) (by kernel_rfl) (by kernel_rfl) (fun _ _ _ h => h) (Or.inl ⟨by rfl, ?_⟩) (by assumption) ?_
  rotate_left
  · intro w hSw; (try dsimp only at hSw); go_simp; try with_reducible rfl
  try simp only [Act.put, List.setIfInBounds_toArray, List.set_cons_zero, List.set_cons_succ]
  refine wpAnyH_done (by kernel_rfl) ?_ _
  clear hHeld
  go_wp2_with fail
  go_ret2
  exact ⟨rfl, hr.out, hU.out.drew⟩
set_option maxRecDepth 100000 in
theorem next_nil (w : World) :
    Calls Try.prog 25 #[.pointer none] w fun x w' => x = .returned (.tuple #[.int .u64 0, .int .i64 6]) ∧ w = w' := by
  go_enter Try.func25, Try.ntmps25
  go_wp2_with fail
  go_ret2
  exact ⟨rfl, rfl⟩
set_option maxRecDepth 100000 in
theorem next_off (w : World) (b : Nat) (h : w.cell? ⟨b, 0, none⟩ = some (.bool false)) :
    Calls Try.prog 25 #[.pointer (some ⟨b, 0, none⟩)] w fun x w' => x = .returned (.tuple #[.int .u64 0, .int .i64 6]) ∧ w = w' := by
  go_enter Try.func25, Try.ntmps25
  go_wp2_with fail
  go_ret2
  exact ⟨rfl, rfl⟩
end Go.Proofs.Ytecmagenlbnchaa
