/-
  How arguments open: bytes, rows of bytes. No condition.
-/
import Derived.Test.YtjhfoddhpmmjoaaDoorQKit
import Derived.Test.YtjhfoddhpmmjoaaDoorQTx
import Derived.Test.YtjhfoddhpmmjoaaDoorQOpenK
import Derived.Deep.Matrix
namespace Go.Proofs.YtjhfoddhpmmjoaaDoor
set_option maxRecDepth 100000
open Go.ChangeShapes Go.WideShapes Go.ChangeAt Go.RowKit Go.Deep

theorem cellsU8' : Tryd.prog.cellsOf 5 = 1 := by kernel_rfl
theorem cellsBytes : Tryd.prog.cellsOf 85 = 1 := by kernel_rfl
/-- The bytes of numbers. -/
def natsOf (zs : List Int) : List Nat := zs.map Int.toNat
theorem text_of {W : World} {a : Addr} {len cap : Nat} {zs : List Int} (hl : len ≤ cap) (hz : zs.length = cap) (hc : ∀ i, i < zs.length → W.cell? (a.add i) = some (.int .u8 (zs.getD i 0))) (hw : ∀ n ∈ zs, (Lit.int .u8 n).wf = true) :
    ∃ t : List Nat, t.length = len ∧ TextAt W (.slice (some a) len cap) t := by
  refine ⟨natsOf (zs.take len), by simp [natsOf]; omega, ?_⟩
  have hlen : (natsOf (zs.take len)).length = len := by simp [natsOf]; omega
  have key : ∀ i, i < len → byt (natsOf (zs.take len)) i < 256 ∧ ∃ ob oo, some a = some ⟨ob, oo, none⟩ ∧ W.cell? ⟨ob, oo + i, none⟩ = some (.int .u8 (byt (natsOf (zs.take len)) i : Nat)) := fun i hi => by
    have hiz : i < zs.length := by omega
    have hcell := hc i hiz
    have hmem : zs[i] ∈ zs := List.getElem_mem hiz
    have hwf := wf_u8 (hw _ hmem)
    have eg : zs.getD i 0 = zs[i] := by simp [List.getD, hiz]
    have eb : byt (natsOf (zs.take len)) i = (zs[i]).toNat := by
      simp only [byt, natsOf, List.getD, List.getElem?_map]
      rw [List.getElem?_take, if_pos hi, List.getElem?_eq_getElem hiz]
      rfl
    rw [eb]
    refine ⟨by omega, ?_⟩
    obtain ⟨ab, ao, asp⟩ := a
    cases asp with
    | none =>
      refine ⟨ab, ao, rfl, ?_⟩
      rw [Addr.add_lit] at hcell
      rw [hcell, eg]
      congr 2
      omega
    | some s =>
      have h0 := hc 0 (by omega)
      simp only [Addr.add, World.cell?, if_true] at h0
      split at h0 <;> simp at h0
  exact ⟨_, cap, by rw [hlen], by rw [hlen]; exact hl, fun e => by simp at e, by rw [hlen]; exact key⟩

set_option maxRecDepth 100000 in
theorem open_bytes {H : Type} {enc : TypeId × Value → H} {W : World} {base b0 : Nat} {held : Bool} {v : Value} {d : DataW H} {ps : List MemPlace} {r : Reach}
    (hval : Value.okWide Tryd.prog W r b0 85 v) (h : DataW.Trod enc Tryd.prog W base (fun _ => true) held 85 v d ps) :
    ∃ ao cap t, v = .slice ao t.length cap ∧ TextAt W v t ∧ t.length < 9223372036854775808 := by
  obtain ⟨ao, len, cap, rfl⟩ := okWide_slice Tryd.underlying85 hval
  obtain ⟨fuel, hf⟩ := h
  rcases open_ints Tryd.underlying85 Tryd.underlying5 cellsU8' hf with ⟨hc, _⟩ | ⟨a, len', cap', zs, hc, _, hl, hm, hz, _, hcell, hw⟩
  · simp [Value.cells] at hc
    obtain ⟨rfl, rfl, rfl⟩ := hc
    exact ⟨none, 0, [], rfl, TextAt.nil W, by simp⟩
  · simp [Value.cells] at hc
    obtain ⟨rfl, rfl, rfl⟩ := hc
    obtain ⟨t, rfl, ht⟩ := text_of hl (by simpa using hz) hcell hw
    exact ⟨_, _, t, rfl, ht, by unfold maxLen at hm; omega⟩

set_option maxRecDepth 100000 in
theorem open_texts {H : Type} {enc : TypeId × Value → H} {W : World} {base b0 : Nat} {held : Bool} {v : Value} {d : DataW H} {ps : List MemPlace} {r : Reach}
    (hval : Value.okWide Tryd.prog W r b0 100 v) (h : DataW.Trod enc Tryd.prog W base (fun _ => true) held 100 v d ps) :
    ∃ ao cap ls, v = .slice ao (List.length ls) cap ∧ ls.length ≤ cap ∧ TextsAt W ao ls ∧ ls.length < 9223372036854775808 := by
  obtain ⟨ao, len, cap, rfl⟩ := okWide_slice Tryd.underlying100 hval
  obtain ⟨fuel, hf⟩ := h
  rcases open_int_rows Tryd.underlying100 Tryd.underlying85 Tryd.underlying5 cellsBytes cellsU8' hf with ⟨hc, _⟩ | ⟨a, len', cap', A, L, C, Z, hc, _, hl, hm, _, hx⟩
  · simp [Value.cells] at hc
    obtain ⟨rfl, rfl, rfl⟩ := hc
    exact ⟨none, 0, [], rfl, Nat.le_refl _, fun i hi => by simp at hi, by simp⟩
  · simp [Value.cells] at hc
    obtain ⟨rfl, rfl, rfl⟩ := hc
    have each : ∀ i, i < len → ∃ t : List Nat, t.length = L i ∧ TextAt W (.slice (A i) (L i) (C i)) t := fun i hi => by
      obtain ⟨h1, h2, h3, h4, h5, h6, h7⟩ := hx i (by omega)
      cases hA : A i with
      | none =>
        have hc0 : C i = 0 := h6 hA
        have hl0 : L i = 0 := by omega
        rw [hc0, hl0]
        exact ⟨[], rfl, TextAt.nil W⟩
      | some a' =>
        obtain ⟨_, h8⟩ := h7 a' hA
        exact text_of h2 h4 (fun j hj => h8 j (by omega)) h5
    obtain ⟨T, hT⟩ := choose_lt each
    have hlen : ((List.range len).map T).length = len := by simp
    refine ⟨some a, cap, (List.range len).map T, by rw [hlen], by rw [hlen]; exact hl, fun i hi => ?_, by rw [hlen]; unfold maxLen at hm; omega⟩
    rw [hlen] at hi
    have eT : ((List.range len).map T).getD i [] = T i := by simp [List.getD, hi]
    obtain ⟨h1, _⟩ := hx i (by omega)
    obtain ⟨hTl, hTt⟩ := hT i hi
    obtain ⟨ai, ci, e, g1, g2, g3⟩ := hTt.ex
    obtain ⟨rfl, _, rfl⟩ : A i = ai ∧ L i = (T i).length ∧ C i = ci := by injection e with e1 e2 e3; exact ⟨e1, e2, e3⟩
    rw [eT]
    obtain ⟨ab, ao, asp⟩ := a
    cases asp with
    | none =>
      refine ⟨ab, ao, rfl, A i, C i, ?_, g1, g3, g2⟩
      rw [Addr.add_lit] at h1
      rw [h1, hTl]
    | some s =>
      obtain ⟨h0, _⟩ := hx 0 (by omega)
      simp only [Addr.add, World.cell?, if_true] at h0
      split at h0 <;> simp at h0

end Go.Proofs.YtjhfoddhpmmjoaaDoor
