/-
  How an argument opens that is a slice of Booleans. No condition.
-/
import Derived.Test.YtjhfoddhpmmjoaaDoorApart17
import Derived.Test.YtjhfoddhpmmjoaaDoorOpen17
import Derived.Deep.Slices
namespace Go.Proofs.YtjhfoddhpmmjoaaDoor
set_option maxRecDepth 100000
open Go.ChangeShapes Go.WideShapes Go.ChangeAt Go.RowKit Go.Deep

theorem cellsBool : Tryd.prog.cellsOf 4 = 1 := by kernel_rfl
set_option maxRecDepth 100000 in
theorem open_bools17 {H : Type} {enc : TypeId × Value → H} {W : World} {base b0 : Nat} {held : Bool} {v : Value} {d : DataW H} {ps : List MemPlace} {r : Reach}
    (hval : Value.okWide Tryd.prog W r b0 23 v) (h : DataW.Trod enc Tryd.prog W base (fun _ => true) held 23 v d ps) :
    ∃ ao n cap G, v = .slice ao n cap ∧ BoolsIn W ao n G := by
  obtain ⟨ao, len, cap, rfl⟩ := okWide_slice Tryd.underlying23 hval
  obtain ⟨fuel, hf⟩ := h
  rcases open_slice1 Tryd.underlying23 cellsBool hf with ⟨hc, _⟩ | ⟨a, len', cap', m, n, V, D, Pl, hc, hb, hl, hm, hmm, _, hx⟩
  · simp [Value.cells] at hc
    obtain ⟨rfl, rfl, rfl⟩ := hc
    exact ⟨none, 0, 0, fun _ => false, rfl, fun i hi => by omega⟩
  · simp [Value.cells] at hc
    obtain ⟨rfl, rfl, rfl⟩ := hc
    have hlm : len ≤ m := by rw [hmm]; split <;> omega
    have each : ∀ i, i < len → ∃ b : Bool, W.cell? (a.add i) = some (.bool b) := fun i hi => by
      obtain ⟨h1, h2⟩ := hx i (by omega)
      obtain ⟨b, e1, _⟩ := DataW.trod_bool Tryd.underlying4 h2
      exact ⟨b, by rw [h1]; congr 1; simpa using e1⟩
    obtain ⟨G, hG⟩ := choose_lt each
    refine ⟨_, _, _, G, rfl, fun i hi => ?_⟩
    obtain ⟨ab, ao, asp⟩ := a
    cases asp with
    | none =>
      have e := hG i hi
      rw [Addr.add_lit] at e
      exact ⟨ab, ao, rfl, e⟩
    | some s =>
      have h0 := hG 0 (by omega)
      simp only [Addr.add, World.cell?, if_true] at h0
      split at h0 <;> simp at h0
end Go.Proofs.YtjhfoddhpmmjoaaDoor
