/-
  How an argument opens that is a slice of numbers. No condition.
-/
import Derived.Test.YtecmagenlbnchaaQOpenB
import Derived.Test.YtecmagenlbnchaaQSealCounts22
namespace Go.Proofs.Ytecmagenlbnchaa
set_option maxRecDepth 100000
open Go.ChangeShapes Go.WideShapes Go.ChangeAt Go.RowKit Go.Deep

theorem cellsU64 : Try.prog.cellsOf 24 = 1 := by kernel_rfl
set_option maxRecDepth 100000 in
theorem open_u64s {H : Type} {enc : TypeId × Value → H} {W : World} {base b0 : Nat} {held : Bool} {v : Value} {d : DataW H} {ps : List MemPlace} {r : Reach}
    (hval : Value.okWide Try.prog W r b0 34 v) (h : DataW.Trod enc Try.prog W base (fun _ => true) held 34 v d ps) :
    ∃ ao cap n es, v = .slice ao n cap ∧ U64sAt W ao n es ∧ n < 9223372036854775808 := by
  obtain ⟨ao, len, cap, rfl⟩ := okWide_slice Try.underlying34 hval
  obtain ⟨fuel, hf⟩ := h
  rcases open_ints Try.underlying34 Try.underlying24 cellsU64 hf with ⟨hc, _⟩ | ⟨a, len', cap', zs, hc, _, hl, hm, hz, _, hcell, hw⟩
  · simp [Value.cells] at hc
    obtain ⟨rfl, rfl, rfl⟩ := hc
    exact ⟨none, 0, 0, fun _ => 0, rfl, fun i hi => by omega, by simp⟩
  · simp [Value.cells] at hc
    obtain ⟨rfl, rfl, rfl⟩ := hc
    refine ⟨_, _, len, fun i => (zs.getD i 0).toNat, rfl, fun i hi => ?_, by unfold maxLen at hm; omega⟩
    have hzc : zs.length = cap := by simpa using hz
    have hiz : i < zs.length := by omega
    have hce := hcell i hiz
    have hwf := wf_u64 (hw _ (List.getElem_mem hiz))
    have eg : zs.getD i 0 = zs[i] := by simp [List.getD, hiz]
    show (zs.getD i 0).toNat < _ ∧ _
    rw [eg] at hce ⊢
    refine ⟨by omega, ?_⟩
    obtain ⟨ab, ao, asp⟩ := a
    cases asp with
    | none =>
      refine ⟨ab, ao, rfl, ?_⟩
      rw [Addr.add_lit] at hce
      rw [hce]
      show some (Value.int .u64 zs[i]) = some (.int .u64 (((zs.getD i 0).toNat : Nat) : Int))
      rw [eg, Int.toNat_of_nonneg hwf.1]
    | some s =>
      have h0 := hcell 0 (by omega)
      simp only [Addr.add, World.cell?, if_true] at h0
      split at h0 <;> simp at h0
end Go.Proofs.Ytecmagenlbnchaa
