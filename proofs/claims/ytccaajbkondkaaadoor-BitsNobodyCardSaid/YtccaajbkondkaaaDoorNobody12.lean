/-
  BitsNobody: the walk. The table of math/bits stands in the world: the one condition.
-/
import Derived.Test.YtccaajbkondkaaaDoorLaw12
namespace Go.Proofs.YtccaajbkondkaaaDoor
open Go.RowKit Go.Maps

set_option maxRecDepth 100000 in
theorem nobody_any (i : Int) (w : World) (hT : TabAt w) : Calls Tryd.prog 5 #[.int .i64 i] w fun e w' => e = .returned (.bool true) ∧ Below w.heap.size w w' := by
  have Z0 : ∀ x : World, Below (w.heap.size + 1) (w.alloc (.cells #[.int .i64 0, .slice .none 0 0, .map .none, .int .i64 0] 47)) x → x.cell? ⟨w.heap.size, 0, none⟩ = some (.int .i64 0) ∧ x.cell? ⟨w.heap.size, 0 + 3, none⟩ = some (.int .i64 0) := by
    intro x hx
    constructor
    · rw [hx.cell (p := ⟨w.heap.size, 0, none⟩) (by simp)]; simp
    · rw [hx.cell (p := ⟨w.heap.size, 0 + 3, none⟩) (by simp)]; simp
  have R0 := Below.refl (w.heap.size + 1) (w.alloc (.cells #[.int .i64 0, .slice .none 0 0, .map .none, .int .i64 0] 47))
  have hT1 : TabAt (w.alloc (.cells #[.int .i64 0, .slice .none 0 0, .map .none, .int .i64 0] 47)) := hT.below ((Below.refl _ _).alloc (Nat.le_refl _) _)
  have A0 := alive_any _ hT1
  have D0 : Below w.heap.size w (w.alloc (.cells #[.int .i64 0, .slice .none 0 0, .map .none, .int .i64 0] 47)) := (Below.refl _ _).alloc (Nat.le_refl _) _
  replace D0 := Lib.hid D0
  replace A0 := Lib.hid A0
  replace hT1 := Lib.hid hT1
  replace Z0 := Lib.hid Z0
  replace R0 := Lib.hid R0
  clear hT
  go_enter Tryd.func5, Tryd.ntmps5
  go_wp2_with fail
  refine (drop_nil _ _).mono ?_
  rintro e w1 ⟨rfl, rfl⟩
  go_wp2_with fail
  refine (drop_zero _ _ _ _ (Z0.out _ R0.out).1).mono ?_
  rintro e w1 ⟨rfl, rfl⟩
  go_wp2_with fail
  refine (free_nil _ _).mono ?_
  rintro e w1 ⟨rfl, rfl⟩
  go_wp2_with fail
  refine (free_beyond _ _ 0 _ _ (Z0.out _ R0.out).1 (Nat.zero_le _)).mono ?_
  rintro e w1 ⟨rfl, rfl⟩
  go_wp2_with fail
  refine A0.out.mono ?_
  rintro e w1 ⟨rfl, B1⟩
  have Z1 := Z0.out w1 (by simpa using B1)
  have D1 := Lib.hid (D0.out.trans (B1.mono (by simp)))
  clear B1 Z0 R0 A0 D0
  replace Z1 := Lib.hid Z1
  go_wp2_with fail
  refine (hold_nil _ _).mono ?_
  rintro e w2 ⟨rfl, rfl⟩
  go_wp2_with fail
  refine (hold_zero _ _ _ _ Z1.out.1).mono ?_
  rintro e w2 ⟨rfl, rfl⟩
  go_wp2_with fail
  refine (times_nil _ _).mono ?_
  rintro e w2 ⟨rfl, rfl⟩
  go_wp2_with fail
  refine (times_zero _ _ _ _ Z1.out.1).mono ?_
  rintro e w2 ⟨rfl, rfl⟩
  go_wp2_with fail
  refine (taken_nil _).mono ?_
  rintro e w2 ⟨rfl, rfl⟩
  go_wp2_with fail
  refine (taken_at _ _ _ _ Z1.out.2).mono ?_
  rintro e w2 ⟨rfl, rfl⟩
  go_wp2_with fail
  refine (size_nil _).mono ?_
  rintro e w2 ⟨rfl, rfl⟩
  go_wp2_with fail
  refine (size_any _ _ _ _ Z1.out.1).mono ?_
  rintro e w2 ⟨rfl, rfl⟩
  go_wp2_with fail
  refine (clone_nil _).mono ?_
  rintro e w2 ⟨rfl, rfl⟩
  go_wp2_with fail
  refine (clone_zero _ _ _ Z1.out.1).mono ?_
  rintro e w2 ⟨rfl, rfl⟩
  go_wp2_with fail
  refine (equal_nil _ _ _ Z1.out.1).mono ?_
  rintro e w2 ⟨rfl, rfl⟩
  go_wp2_with fail
  go_ret
  exact ⟨rfl, D1.out⟩

end Go.Proofs.YtccaajbkondkaaaDoor
