/-
  How an op of layer 17 opens, and a slice of such. No condition.
-/
import Derived.Test.YtjhfoddhpmmjoaaDoorKit
import Derived.Test.YtjhfoddhpmmjoaaDoorOpenK
import Derived.Deep.SlicePairs
namespace Go.Proofs.YtjhfoddhpmmjoaaDoor
set_option maxRecDepth 100000
open Go.ChangeShapes Go.WideShapes Go.ChangeAt Go.RowKit Go.Deep

structure Op17 where
  k : Int
  t : Int
  a : Int
  b : Int
  e : Nat
deriving Inhabited
def Op17.cells (o : Op17) : List Value := [.int .i64 o.k, .int .i64 o.t, .int .i64 o.a, .int .i64 o.b, .int .u32 (o.e : Int)]
theorem cellsOp17 : Tryd.prog.cellsOf 36 = 5 := by kernel_rfl
theorem cellsInt17 : Tryd.prog.cellsOf 3 = 1 := by kernel_rfl
theorem cellsU3217 : Tryd.prog.cellsOf 34 = 1 := by kernel_rfl
theorem op17_fields : ∃ f0 f1 f2 f3 f4 : Field, Tryd.prog.underlying 36 = some (.struct #[f0, f1, f2, f3, f4]) ∧ (f0.type = 3 ∧ f0.offset = 0) ∧ (f1.type = 3 ∧ f1.offset = 1) ∧ (f2.type = 3 ∧ f2.offset = 2) ∧ (f3.type = 3 ∧ f3.offset = 3) ∧ (f4.type = 34 ∧ f4.offset = 4) :=
  ⟨_, _, _, _, _, Tryd.underlying36, ⟨rfl, rfl⟩, ⟨rfl, rfl⟩, ⟨rfl, rfl⟩, ⟨rfl, rfl⟩, ⟨rfl, rfl⟩⟩
theorem op_cells {H : Type} {enc : TypeId × Value → H} {W : World} {base : Nat} {sp : Nat → Bool} {held : Bool} {fuel : Nat} {cs : List Value} {y : DataW H × List MemPlace}
    (hl : cs.length = 5) (h : DataW.trod enc Tryd.prog W base sp held fuel 36 cs = some y) : ∃ o : Op17, cs = o.cells ∧ o.e < 4294967296 := by
  obtain ⟨f0, f1, f2, f3, f4, hu, ⟨t0, o0⟩, ⟨t1, o1⟩, ⟨t2, o2⟩, ⟨t3, o3⟩, ⟨t4, o4⟩⟩ := op17_fields
  obtain ⟨xs, k, hk, hxy, _, hxl, hf⟩ := DataW.trod_struct hu h
  match xs, hxl, cs, hl with
  | [y0, y1, y2, y3, y4], _, [v0, v1, v2, v3, v4], _ =>
    have g0 := hf 0 f0 rfl
    have g1 := hf 1 f1 rfl
    have g2 := hf 2 f2 rfl
    have g3 := hf 3 f3 rfl
    have g4 := hf 4 f4 rfl
    rw [t0, o0, cellsInt17] at g0
    rw [t1, o1, cellsInt17] at g1
    rw [t2, o2, cellsInt17] at g2
    rw [t3, o3, cellsInt17] at g3
    rw [t4, o4, cellsU3217] at g4
    obtain ⟨n0, e0, _, _⟩ := DataW.trod_int Tryd.underlying3 g0
    obtain ⟨n1, e1, _, _⟩ := DataW.trod_int Tryd.underlying3 g1
    obtain ⟨n2, e2, _, _⟩ := DataW.trod_int Tryd.underlying3 g2
    obtain ⟨n3, e3, _, _⟩ := DataW.trod_int Tryd.underlying3 g3
    obtain ⟨n4, e4, _, w4⟩ := DataW.trod_int Tryd.underlying34 g4
    have w4 := wf_u32 w4
    simp at e0 e1 e2 e3 e4
    refine ⟨⟨n0, n1, n2, n3, n4.toNat⟩, ?_, by show n4.toNat < _; omega⟩
    unfold Op17.cells
    rw [e0, e1, e2, e3, e4, Int.toNat_of_nonneg w4.1]
theorem open_op {H : Type} {enc : TypeId × Value → H} {W : World} {base b0 : Nat} {sp : Nat → Bool} {held : Bool} {v : Value} {d : DataW H} {ps : List MemPlace} {r : Reach}
    (hval : Value.okWide Tryd.prog W r b0 36 v) (h : DataW.Trod enc Tryd.prog W base sp held 36 v d ps) : ∃ o : Op17, v = .agg o.cells.toArray ∧ o.e < 4294967296 := by
  obtain ⟨f0, f1, f2, f3, f4, hu, _⟩ := op17_fields
  simp only [Value.okWide, hu] at hval
  obtain ⟨cs, rfl, hn, _⟩ := hval
  rw [cellsOp17] at hn
  obtain ⟨fuel, hf⟩ := h
  obtain ⟨o, ho, hl⟩ := op_cells (cs := cs.toList) (by simpa using hn) (by simpa [Value.cells, hu] using hf)
  exact ⟨o, by rw [← ho], hl⟩
/-- Ops lie in a slice. -/
def OpsIn (w : World) (ao : Option Addr) (len : Nat) (F : Nat → Op17) : Prop :=
  ∀ i, i < len → (F i).e < 4294967296 ∧ ∃ ob oo, ao = some ⟨ob, oo, none⟩ ∧ ∀ j, j < 5 → w.cell? ⟨ob, oo + i * 5 + j, none⟩ = (F i).cells[j]?
theorem OpsIn.below {w w' : World} {ao : Option Addr} {len : Nat} {F : Nat → Op17} (h : OpsIn w ao len F) (hB : Below w.heap.size w w') : OpsIn w' ao len F := fun i hi => by
  obtain ⟨he, ob, oo, e, hc⟩ := h i hi
  refine ⟨he, ob, oo, e, fun j hj => ?_⟩
  have h0 := hc j hj
  have hv : ∃ v, (F i).cells[j]? = some v := ⟨_, List.getElem?_eq_getElem (by simpa [Op17.cells] using hj)⟩
  obtain ⟨v, hv⟩ := hv
  rw [hv] at h0 ⊢
  exact (hB.cell (block_lt_of_cell h0)).trans h0
set_option maxRecDepth 100000 in
theorem open_ops17 {H : Type} {enc : TypeId × Value → H} {W : World} {base b0 : Nat} {spare : Nat → Bool} {held : Bool} {v : Value} {d : DataW H} {ps : List MemPlace} {r : Reach}
    (hval : Value.okWide Tryd.prog W r b0 22 v) (h : DataW.Trod enc Tryd.prog W base spare held 22 v d ps) :
    ∃ ao len cap F, v = .slice ao len cap ∧ len ≤ maxLen ∧ OpsIn W ao len F := by
  obtain ⟨ao, len, cap, rfl⟩ := okWide_slice Tryd.underlying22 hval
  obtain ⟨fuel, hf⟩ := h
  rcases open_slice Tryd.underlying22 hf with ⟨hc, _⟩ | ⟨a, len', cap', m, n, D, Pl, hc, _, hlc, hcm, hm, _, hx⟩
  · simp [Value.cells] at hc
    obtain ⟨rfl, rfl, rfl⟩ := hc
    exact ⟨_, _, _, fun _ => default, rfl, Nat.zero_le _, fun i hi => by omega⟩
  · simp [Value.cells] at hc
    obtain ⟨rfl, rfl, rfl⟩ := hc
    have hlm : len ≤ m := by rw [hm]; split <;> omega
    have each : ∀ i, i < len → ∃ o : Op17, o.e < 4294967296 ∧ ∀ j, j < 5 → W.cell? (a.add (i * 5 + j)) = o.cells[j]? := by
      intro i hi
      obtain ⟨cs, h1, h2⟩ := hx i (by omega)
      rw [cellsOp17] at h1
      obtain ⟨_, hlen, hcell⟩ := World.cells?_some h1
      obtain ⟨o, rfl, ho⟩ := op_cells hlen h2
      refine ⟨o, ho, fun j hj => ?_⟩
      have e := hcell j hj
      rw [add_add] at e
      exact e
    obtain ⟨F, hF⟩ := choose_lt each
    refine ⟨_, _, _, F, rfl, by omega, fun i hi => ⟨(hF i hi).1, ?_⟩⟩
    obtain ⟨ab, ao, asp⟩ := a
    cases asp with
    | none =>
      refine ⟨ab, ao, rfl, fun j hj => ?_⟩
      have e := (hF i hi).2 j hj
      rw [Addr.add_lit] at e
      rw [Nat.add_assoc]
      exact e
    | some s =>
      have h00 := (hF 0 (by omega)).2 0 (by decide)
      simp only [Addr.add, World.cell?, Nat.zero_mul, if_true] at h00
      split at h00 <;> simp [Op17.cells] at h00
end Go.Proofs.YtjhfoddhpmmjoaaDoor
