/-
  ExtentLives: the walk. The table of math/bits stands in the world: the one condition.
-/
import Derived.Test.YtjhfoddhpmmjoaaDoorOne17
import Derived.Test.YtjhfoddhpmmjoaaDoorOps17
namespace Go.Proofs.YtjhfoddhpmmjoaaDoor
set_option maxRecDepth 100000
open Go.RowKit

/-- What ExtentLives keeps. -/
def LivSt (w0 w : World) (b rb rw rm c cl n m : Nat) : Prop := ∃ L T, Duo w b rb rw rm c cl n m L T ∧ Below w0.heap.size w0 w ∧ TabAt w
theorem all_low {w w1 w2 : World} {b rb rw rm c cl : Nat} (h : Below w.heap.size w w1) (u : Upd (All6 b rb rw rm c cl) w1 w2) (g1 : w.heap.size ≤ b) (g2 : w.heap.size ≤ rb) (g3 : w.heap.size ≤ rw) (g4 : w.heap.size ≤ rm) (g5 : w.heap.size ≤ c) (g6 : w.heap.size ≤ cl) : Below w.heap.size w w2 :=
  h.trans (u.below (fun k hk hs => by unfold All6 Four Three TwoQ at hs; omega) h.size)
set_option maxHeartbeats 4000000 in
theorem lives17_mid (n : Nat) (h1 : 100 < n) (h2 : n ≤ 2048) (w : World) (hT : TabAt w) (v : Value) (ask : Nat) :
    Calls Tryd.prog 6 #[.int .i64 (n : Int), v, .int .u32 (ask : Int)] w fun e w' => e = .returned (.bool true) ∧ Below w.heap.size w w' := by
  have d1 : decide ((n : Int) > 100) = true := decide_eq_true (by omega)
  have d2 : decide ((n : Int) ≤ 2048) = true := decide_eq_true (by omega)
  have al := Lib.hid (alive_any17 w hT)
  replace hT := Lib.hid hT
  go_enter Tryd.func6, Tryd.ntmps6
  go_wp2_with fail
  refine al.out.mono ?_
  rintro e w1 ⟨rfl, B1⟩
  go_wp2_with fail
  go_ret
  exact ⟨rfl, B1⟩
set_option maxHeartbeats 4000000 in
theorem lives17_bad (n : Int) (h : n < 1 ∨ 2048 < n) (w : World) (hT : TabAt w) (ao : Option Addr) (len cap : Nat) (ask : Nat) :
    Calls Tryd.prog 6 #[.int .i64 n, .slice ao len cap, .int .u32 (ask : Int)] w fun e w' => e = .returned (.bool true) ∧ Below w.heap.size w w' := by
  have dd : decide (n > 100) = false ∨ (decide (n > 100) = true ∧ decide (n ≤ 2048) = false) := by
    simp only [decide_eq_true_eq, decide_eq_false_iff_not]; omega
  have al := Lib.hid (alive_any17 w hT)
  have cf := enew_bad w n h
  have cr := qnew_bad w n h
  have dl : (decide ((0 : Int) < (len : Int)) = true ∧ 0 < len) ∨ (decide ((0 : Int) < (len : Int)) = false ∧ ¬ 0 < len) := by
    by_cases hl : 0 < len
    · exact .inl ⟨decide_eq_true (by omega), hl⟩
    · exact .inr ⟨decide_eq_false (by omega), hl⟩
  replace hT := Lib.hid hT
  replace cf := Lib.hid cf
  replace cr := Lib.hid cr
  rcases dd with d1 | ⟨d1, d2⟩ <;> rcases dl with ⟨d3, d4⟩ | ⟨d3, d4⟩
  all_goals
    go_enter Tryd.func6, Tryd.ntmps6
    go_wp2_with fail
    refine cf.out.mono ?_
    rintro e _ ⟨rfl, rfl⟩
    go_wp2_with fail
    refine cr.out.mono ?_
    rintro e _ ⟨rfl, rfl⟩
    go_wp2_with fail
    go_loopw [11] (fun iv wr => iv = .int .i64 0 ∧ wr = w) (fun _ _ => 0)
    case atStart => exact ⟨rfl, rfl⟩
    case round =>
      obtain ⟨rfl, rfl⟩ := hrel
      go_wp2_with fail
      refine al.out.mono ?_
      rintro e w1 ⟨rfl, B1⟩
      go_wp2_with fail
      go_ret
      exact ⟨rfl, B1⟩
end Go.Proofs.YtjhfoddhpmmjoaaDoor
