/-
  Ops in a slice: an op read whole. No condition.
-/
import Derived.Test.YtjhfoddhpmmjoaaDoorOpen17
import Derived.Deep.MidRow
namespace Go.Proofs.YtjhfoddhpmmjoaaDoor
set_option maxRecDepth 100000
open Go.RowKit

theorem infoOp17 (o : Op17) : (Tryd.prog.info? 36).map (·.size) = some o.cells.length := by
  have h : (Tryd.prog.info? 36).map (·.size) = some 5 := by kernel_rfl
  exact h
theorem OpsIn.range {w : World} {ob oo len : Nat} {F : Nat → Op17} (h : OpsIn w (some ⟨ob, oo, none⟩) len F) {i : Nat} (hi : i < len) : w.rangeAt ob (oo + i * 5) (F i).cells := fun j v hv => by
  obtain ⟨_, ob', oo', e, hc⟩ := h i hi
  cases e
  have hj : j < 5 := by
    have := (List.getElem?_eq_some_iff.1 hv).1
    simpa [Op17.cells] using this
  rw [hc j hj, hv]
theorem OpsIn.addr {w : World} {ao : Option Addr} {len : Nat} {F : Nat → Op17} (h : OpsIn w ao len F) {i : Nat} (hi : i < len) : ∃ ob oo, ao = some ⟨ob, oo, none⟩ := by
  obtain ⟨_, ob, oo, e, _⟩ := h i hi
  exact ⟨ob, oo, e⟩
end Go.Proofs.YtjhfoddhpmmjoaaDoor
