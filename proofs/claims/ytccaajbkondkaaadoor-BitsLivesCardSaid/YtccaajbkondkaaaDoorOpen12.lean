/-
  How an argument of type []Op (layer 12) opens: a slice whose cells hold numbers. No condition.
-/
import Derived.Test.YtccaajbkondkaaaDoorKit
import Derived.Test.YtccaajbkondkaaaDoorPlayed
import Derived.Deep.SlicePairs
namespace Go.Proofs.YtccaajbkondkaaaDoor
open Go.ChangeShapes Go.WideShapes Go.ChangeAt Go.RowKit Go.Deep

theorem cellsOp12 : Tryd.prog.cellsOf 32 = 2 := by kernel_rfl
theorem cellsInt : Tryd.prog.cellsOf 3 = 1 := by kernel_rfl

set_option maxRecDepth 100000 in
theorem open_ops12 {H : Type} {enc : TypeId × Value → H} {W : World} {base b0 : Nat} {spare : Nat → Bool} {held : Bool} {v : Value} {d : DataW H} {ps : List MemPlace} {r : Reach}
    (hval : Value.okWide Tryd.prog W r b0 22 v) (h : DataW.Trod enc Tryd.prog W base spare held 22 v d ps) :
    ∃ ao len cap K I, v = .slice ao len cap ∧ len ≤ maxLen ∧ OpsAt W ao len K I := by
  obtain ⟨ao, len, cap, rfl⟩ := okWide_slice Tryd.underlying22 hval
  obtain ⟨fuel, hf⟩ := h
  rcases open_slice_pairs Tryd.underlying22 Tryd.underlying32 cellsOp12 rfl rfl cellsInt cellsInt hf with ⟨hc, _⟩ | ⟨a, len', cap', m, n, V0, V1, D0, D1, P0, P1, hc, _, hlc, hcm, hm, _, hx⟩
  · simp [Value.cells] at hc
    obtain ⟨rfl, rfl, rfl⟩ := hc
    exact ⟨_, _, _, fun _ => 0, fun _ => 0, rfl, Nat.zero_le _, fun i hi => by omega⟩
  · simp [Value.cells] at hc
    obtain ⟨rfl, rfl, rfl⟩ := hc
    have hlm : len ≤ m := by rw [hm]; split <;> omega
    have each : ∀ i, i < len → ∃ q : Int × Int, W.cell? (a.add (i * 2)) = some (.int .i64 q.1) ∧ W.cell? (a.add (i * 2 + 1)) = some (.int .i64 q.2) := by
      intro i hi
      obtain ⟨h0, h1, t0, t1⟩ := hx i (by omega)
      obtain ⟨k0, e0, _⟩ := DataW.trod_int Tryd.underlying3 t0
      obtain ⟨k1, e1, _⟩ := DataW.trod_int Tryd.underlying3 t1
      simp only [List.cons.injEq, and_true] at e0 e1
      exact ⟨(k0, k1), by rw [h0, e0], by rw [h1, e1]⟩
    have ⟨q, hq⟩ := choose_lt each
    refine ⟨_, _, _, fun i => (q i).1, fun i => (q i).2, rfl, by omega, fun i hi => ?_⟩
    obtain ⟨h0, h1⟩ := hq i hi
    obtain ⟨ab, ao, asp⟩ := a
    cases asp with
    | none =>
      refine ⟨ab, ao, rfl, ?_, ?_⟩
      · rw [Addr.add_lit] at h0; exact h0
      · rw [Addr.add_lit] at h1; exact h1
    | some s =>
      obtain ⟨h00, _⟩ := hq 0 (by omega)
      simp only [Addr.add, World.cell?, Nat.zero_mul, if_true] at h00
      split at h00 <;> simp at h00

end Go.Proofs.YtccaajbkondkaaaDoor
