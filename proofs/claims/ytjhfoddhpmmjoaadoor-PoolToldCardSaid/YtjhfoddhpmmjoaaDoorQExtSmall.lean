/-
  extent: what only reads. Condition: the field's blocks are its own.
-/
import Derived.Test.YtjhfoddhpmmjoaaDoorQExtCells
import Derived.Test.YtjhfoddhpmmjoaaDoorQHeld
namespace Go.Proofs.YtjhfoddhpmmjoaaDoor
set_option maxRecDepth 100000
open Go.RowKit

/-- A field that a call made. -/
structure FieldAt (w : World) (b rb rw rm n m : Nat) (L : Nat → Nat) (T : Nat → Ten) : Prop where
  f : FieldB w b (some ⟨rb, 0, none⟩) T
  r : RowAt w rb rw rm n m L
  ne : b ≠ rb ∧ b ≠ rw ∧ b ≠ rm
  good : Good n L T
  small : n ≤ 2048
/-- A field that no call made: nil, or its row nil. -/
def NoField (w : World) (v : Value) : Prop := v = .pointer none ∨ ∃ b o, v = .pointer (some ⟨b, o, none⟩) ∧ w.cell? ⟨b, o, none⟩ = some (.pointer none)
set_option maxRecDepth 100000 in
theorem emade_no (w : World) (v : Value) (h : NoField w v) :
    Calls Tryd.prog 46 #[v] w fun e w' => e = .returned (.bool false) ∧ w = w' := by
  rcases h with rfl | ⟨b, o, rfl, hc⟩
  · go_enter Tryd.func46, Tryd.ntmps46
    go_wp2_with fail
    go_ret
    exact ⟨rfl, rfl⟩
  · go_enter Tryd.func46, Tryd.ntmps46
    go_wp2_with fail
    go_ret
    exact ⟨rfl, rfl⟩
section
variable {w : World} {b rb rw rm n m : Nat} {L : Nat → Nat} {T : Nat → Ten}
set_option maxRecDepth 100000 in
theorem emade_any (h : FieldAt w b rb rw rm n m L T) :
    Calls Tryd.prog 46 #[.pointer (some ⟨b, 0, none⟩)] w fun e w' => e = .returned (.bool true) ∧ w = w' := by
  have c0 := h.f.row
  replace h := Lib.hid h
  go_enter Tryd.func46, Tryd.ntmps46
  go_wp2_with fail
  go_ret
  exact ⟨rfl, rfl⟩
set_option maxRecDepth 100000 in
theorem esize_any (h : FieldAt w b rb rw rm n m L T) :
    Calls Tryd.prog 26 #[.pointer (some ⟨b, 0, none⟩)] w fun e w' => e = .returned (.int .i64 (n : Int)) ∧ w = w' := by
  have cm := Lib.hid (emade_any h)
  have cs := Lib.hid (size_at h.r)
  have c0 := h.f.row
  replace h := Lib.hid h
  go_enter Tryd.func26, Tryd.ntmps26
  go_wp2_with fail
  refine cm.out.mono ?_
  rintro e _ ⟨rfl, rfl⟩
  go_wp2_with fail
  refine cs.out.mono ?_
  rintro e _ ⟨rfl, rfl⟩
  go_wp2_with fail
  go_ret
  exact ⟨rfl, rfl⟩
set_option maxRecDepth 100000 in
theorem esize_no (w : World) (v : Value) (h : NoField w v) :
    Calls Tryd.prog 26 #[v] w fun e w' => e = .returned (.int .i64 0) ∧ w = w' := by
  have cm := Lib.hid (emade_no w v h)
  replace h := Lib.hid h
  go_enter Tryd.func26, Tryd.ntmps26
  go_wp2_with fail
  refine cm.out.mono ?_
  rintro e _ ⟨rfl, rfl⟩
  go_wp2_with fail
  go_ret
  exact ⟨rfl, rfl⟩
set_option maxRecDepth 100000 in
theorem eat_none (w : World) (v : Value) (t : Int) (h : NoField w v) :
    Calls Tryd.prog 44 #[v, .int .i64 t] w fun e w' => e = .returned (.pointer none) ∧ w = w' := by
  have cm := Lib.hid (emade_no w v h)
  replace h := Lib.hid h
  go_enter Tryd.func44, Tryd.ntmps44
  go_wp2_with fail
  refine cm.out.mono ?_
  rintro e _ ⟨rfl, rfl⟩
  go_wp2_with fail
  go_ret
  exact ⟨rfl, rfl⟩
set_option maxRecDepth 100000 in
theorem eat_no (h : FieldAt w b rb rw rm n m L T) (t : Int) (hi : isIn T t = false) :
    Calls Tryd.prog 44 #[.pointer (some ⟨b, 0, none⟩), .int .i64 t] w fun e w' => e = .returned (.pointer none) ∧ w = w' := by
  have cm := Lib.hid (emade_any h)
  have dd : decide (t < 1) = true ∨ (decide (t < 1) = false ∧ decide (t > 8) = true) ∨ (∃ k : Nat, t = (k : Int) ∧ 1 ≤ k ∧ k < 9 ∧ (T k).on = false) := by
    unfold isIn at hi
    rw [Bool.and_eq_false_iff, decide_eq_false_iff_not] at hi
    by_cases h1 : t < 1
    · left; exact decide_eq_true h1
    · right
      by_cases h2 : t > 8
      · left; exact ⟨decide_eq_false h1, decide_eq_true h2⟩
      · right
        refine ⟨t.toNat, by omega, by omega, by omega, ?_⟩
        rcases hi with hi | hi
        · omega
        · exact hi
  rcases dd with d1 | ⟨d1, d2⟩ | ⟨k, rfl, k1, k9, hk⟩
  ·
    replace h := Lib.hid h
    go_enter Tryd.func44, Tryd.ntmps44
    go_wp2_with fail
    refine cm.out.mono ?_
    rintro e _ ⟨rfl, rfl⟩
    go_wp2_with fail
    go_ret
    exact ⟨rfl, rfl⟩
  ·
    replace h := Lib.hid h
    go_enter Tryd.func44, Tryd.ntmps44
    go_wp2_with fail
    refine cm.out.mono ?_
    rintro e _ ⟨rfl, rfl⟩
    go_wp2_with fail
    go_ret
    exact ⟨rfl, rfl⟩
  · have c1 := h.f.on k9
    rw [hk] at c1
    have d1 : decide ((k : Int) < 1) = false := decide_eq_false (by omega)
    have d2 : decide ((k : Int) > 8) = false := decide_eq_false (by omega)
    have d3 : (k : Int) < 9 := by omega
    replace h := Lib.hid h
    replace hk := Lib.hid hk
    go_enter Tryd.func44, Tryd.ntmps44
    go_wp2_with fail
    refine cm.out.mono ?_
    rintro e _ ⟨rfl, rfl⟩
    go_wp2_with fail
    go_ret
    exact ⟨rfl, rfl⟩
set_option maxRecDepth 100000 in
theorem eat_ok (h : FieldAt w b rb rw rm n m L T) (k : Nat) (k1 : 1 ≤ k) (k9 : k < 9) (hk : (T k).on = true) :
    Calls Tryd.prog 44 #[.pointer (some ⟨b, 0, none⟩), .int .i64 (k : Int)] w fun e w' => e = .returned (.pointer (some ⟨b, 1 + k * 4, none⟩)) ∧ w = w' := by
  have cm := Lib.hid (emade_any h)
  have c1 := h.f.on k9
  rw [hk] at c1
  have d1 : decide ((k : Int) < 1) = false := decide_eq_false (by omega)
  have d2 : decide ((k : Int) > 8) = false := decide_eq_false (by omega)
  have d3 : (k : Int) < 9 := by omega
  replace h := Lib.hid h
  replace hk := Lib.hid hk
  go_enter Tryd.func44, Tryd.ntmps44
  go_wp2_with fail
  refine cm.out.mono ?_
  rintro e _ ⟨rfl, rfl⟩
  go_wp2_with fail
  go_ret
  exact ⟨rfl, rfl⟩
end
end Go.Proofs.YtjhfoddhpmmjoaaDoor
