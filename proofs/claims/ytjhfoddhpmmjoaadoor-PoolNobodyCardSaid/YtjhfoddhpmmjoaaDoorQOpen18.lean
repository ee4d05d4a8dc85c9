/-
  How an op of layer 18 opens, and a slice of such. No condition.
-/
import Derived.Test.YtjhfoddhpmmjoaaDoorQKit
import Derived.Test.YtjhfoddhpmmjoaaDoorQOpenK
import Derived.Deep.SlicePairs
import Derived.Deep.MidRow
import Derived.Test.YtjhfoddhpmmjoaaDoorQPoolPut
namespace Go.Proofs.YtjhfoddhpmmjoaaDoor
set_option maxRecDepth 100000
open Go.ChangeShapes Go.WideShapes Go.ChangeAt Go.RowKit Go.Deep

structure Op18 where
  k : Int
  t : Int
  a : Int
  b : Int
  e : Nat
deriving Inhabited
def Op18.cells (o : Op18) : List Value := [.int .i64 o.k, .int .i64 o.t, .int .i64 o.a, .int .i64 o.b, .int .u8 (o.e : Int)]
theorem cellsOp18 : Tryd.prog.cellsOf 98 = 5 := by kernel_rfl
theorem cellsInt18 : Tryd.prog.cellsOf 3 = 1 := by kernel_rfl
theorem cellsU818 : Tryd.prog.cellsOf 5 = 1 := by kernel_rfl
theorem op18_fields : ∃ f0 f1 f2 f3 f4 : Field, Tryd.prog.underlying 98 = some (.struct #[f0, f1, f2, f3, f4]) ∧ (f0.type = 3 ∧ f0.offset = 0) ∧ (f1.type = 3 ∧ f1.offset = 1) ∧ (f2.type = 3 ∧ f2.offset = 2) ∧ (f3.type = 3 ∧ f3.offset = 3) ∧ (f4.type = 5 ∧ f4.offset = 4) :=
  ⟨_, _, _, _, _, Tryd.underlying98, ⟨rfl, rfl⟩, ⟨rfl, rfl⟩, ⟨rfl, rfl⟩, ⟨rfl, rfl⟩, ⟨rfl, rfl⟩⟩
theorem op18_cells {H : Type} {enc : TypeId × Value → H} {W : World} {base : Nat} {sp : Nat → Bool} {held : Bool} {fuel : Nat} {cs : List Value} {y : DataW H × List MemPlace}
    (hl : cs.length = 5) (h : DataW.trod enc Tryd.prog W base sp held fuel 98 cs = some y) : ∃ o : Op18, cs = o.cells ∧ o.e < 256 := by
  obtain ⟨f0, f1, f2, f3, f4, hu, ⟨t0, o0⟩, ⟨t1, o1⟩, ⟨t2, o2⟩, ⟨t3, o3⟩, ⟨t4, o4⟩⟩ := op18_fields
  obtain ⟨xs, k, hk, hxy, _, hxl, hf⟩ := DataW.trod_struct hu h
  match xs, hxl, cs, hl with
  | [y0, y1, y2, y3, y4], _, [v0, v1, v2, v3, v4], _ =>
    have g0 := hf 0 f0 rfl
    have g1 := hf 1 f1 rfl
    have g2 := hf 2 f2 rfl
    have g3 := hf 3 f3 rfl
    have g4 := hf 4 f4 rfl
    rw [t0, o0, cellsInt18] at g0
    rw [t1, o1, cellsInt18] at g1
    rw [t2, o2, cellsInt18] at g2
    rw [t3, o3, cellsInt18] at g3
    rw [t4, o4, cellsU818] at g4
    obtain ⟨n0, e0, _, _⟩ := DataW.trod_int Tryd.underlying3 g0
    obtain ⟨n1, e1, _, _⟩ := DataW.trod_int Tryd.underlying3 g1
    obtain ⟨n2, e2, _, _⟩ := DataW.trod_int Tryd.underlying3 g2
    obtain ⟨n3, e3, _, _⟩ := DataW.trod_int Tryd.underlying3 g3
    obtain ⟨n4, e4, _, w4⟩ := DataW.trod_int Tryd.underlying5 g4
    have w4 := wf_u8 w4
    simp at e0 e1 e2 e3 e4
    refine ⟨⟨n0, n1, n2, n3, n4.toNat⟩, ?_, by show n4.toNat < _; omega⟩
    unfold Op18.cells
    rw [e0, e1, e2, e3, e4, Int.toNat_of_nonneg w4.1]
theorem open_op18 {H : Type} {enc : TypeId × Value → H} {W : World} {base b0 : Nat} {sp : Nat → Bool} {held : Bool} {v : Value} {d : DataW H} {ps : List MemPlace} {r : Reach}
    (hval : Value.okWide Tryd.prog W r b0 98 v) (h : DataW.Trod enc Tryd.prog W base sp held 98 v d ps) : ∃ o : Op18, v = .agg o.cells.toArray ∧ o.e < 256 := by
  obtain ⟨f0, f1, f2, f3, f4, hu, _⟩ := op18_fields
  simp only [Value.okWide, hu] at hval
  obtain ⟨cs, rfl, hn, _⟩ := hval
  rw [cellsOp18] at hn
  obtain ⟨fuel, hf⟩ := h
  obtain ⟨o, ho, hl⟩ := op18_cells (cs := cs.toList) (by simpa using hn) (by simpa [Value.cells, hu] using hf)
  exact ⟨o, by rw [← ho], hl⟩
/-- Ops lie in a slice. -/
def OpsIn18 (w : World) (ao : Option Addr) (len : Nat) (F : Nat → Op18) : Prop :=
  ∀ i, i < len → (F i).e < 256 ∧ ∃ ob oo, ao = some ⟨ob, oo, none⟩ ∧ ∀ j, j < 5 → w.cell? ⟨ob, oo + i * 5 + j, none⟩ = (F i).cells[j]?
theorem OpsIn18.below {w w' : World} {ao : Option Addr} {len : Nat} {F : Nat → Op18} (h : OpsIn18 w ao len F) (hB : Below w.heap.size w w') : OpsIn18 w' ao len F := fun i hi => by
  obtain ⟨he, ob, oo, e, hc⟩ := h i hi
  refine ⟨he, ob, oo, e, fun j hj => ?_⟩
  have h0 := hc j hj
  have hv : ∃ v, (F i).cells[j]? = some v := ⟨_, List.getElem?_eq_getElem (by simpa [Op18.cells] using hj)⟩
  obtain ⟨v, hv⟩ := hv
  rw [hv] at h0 ⊢
  exact (hB.cell (block_lt_of_cell h0)).trans h0
set_option maxRecDepth 100000 in
theorem open_ops18 {H : Type} {enc : TypeId × Value → H} {W : World} {base b0 : Nat} {spare : Nat → Bool} {held : Bool} {v : Value} {d : DataW H} {ps : List MemPlace} {r : Reach}
    (hval : Value.okWide Tryd.prog W r b0 93 v) (h : DataW.Trod enc Tryd.prog W base spare held 93 v d ps) :
    ∃ ao len cap F, v = .slice ao len cap ∧ len ≤ maxLen ∧ OpsIn18 W ao len F := by
  obtain ⟨ao, len, cap, rfl⟩ := okWide_slice Tryd.underlying93 hval
  obtain ⟨fuel, hf⟩ := h
  rcases open_slice Tryd.underlying93 hf with ⟨hc, _⟩ | ⟨a, len', cap', m, n, D, Pl, hc, _, hlc, hcm, hm, _, hx⟩
  · simp [Value.cells] at hc
    obtain ⟨rfl, rfl, rfl⟩ := hc
    exact ⟨_, _, _, fun _ => default, rfl, Nat.zero_le _, fun i hi => by omega⟩
  · simp [Value.cells] at hc
    obtain ⟨rfl, rfl, rfl⟩ := hc
    have hlm : len ≤ m := by rw [hm]; split <;> omega
    have each : ∀ i, i < len → ∃ o : Op18, o.e < 256 ∧ ∀ j, j < 5 → W.cell? (a.add (i * 5 + j)) = o.cells[j]? := by
      intro i hi
      obtain ⟨cs, h1, h2⟩ := hx i (by omega)
      rw [cellsOp18] at h1
      obtain ⟨_, hlen, hcell⟩ := World.cells?_some h1
      obtain ⟨o, rfl, ho⟩ := op18_cells hlen h2
      refine ⟨o, ho, fun j hj => ?_⟩
      have e := hcell j hj
      rw [add_add] at e
      exact e
    obtain ⟨F, hF⟩ := choose_lt each
    refine ⟨_, _, _, F, rfl, by omega, fun i hi => ⟨(hF i hi).1, ?_⟩⟩
    obtain ⟨ab, ao, asp⟩ := a
    cases asp with
    | none =>
      refine ⟨ab, ao, rfl, fun j hj => ?_⟩
      have e := (hF i hi).2 j hj
      rw [Addr.add_lit] at e
      rw [Nat.add_assoc]
      exact e
    | some s =>
      have h00 := (hF 0 (by omega)).2 0 (by decide)
      simp only [Addr.add, World.cell?, Nat.zero_mul, if_true] at h00
      split at h00 <;> simp [Op18.cells] at h00
theorem infoOp18 (o : Op18) : (Tryd.prog.info? 98).map (·.size) = some o.cells.length := by
  have h : (Tryd.prog.info? 98).map (·.size) = some 5 := by kernel_rfl
  exact h
theorem OpsIn18.range {w : World} {ob oo len : Nat} {F : Nat → Op18} (h : OpsIn18 w (some ⟨ob, oo, none⟩) len F) {i : Nat} (hi : i < len) : w.rangeAt ob (oo + i * 5) (F i).cells := fun j v hv => by
  obtain ⟨_, ob', oo', e, hc⟩ := h i hi
  cases e
  have hj : j < 5 := by
    have := (List.getElem?_eq_some_iff.1 hv).1
    simpa [Op18.cells] using this
  rw [hc j hj, hv]
theorem OpsIn18.addr {w : World} {ao : Option Addr} {len : Nat} {F : Nat → Op18} (h : OpsIn18 w ao len F) {i : Nat} (hi : i < len) : ∃ ob oo, ao = some ⟨ob, oo, none⟩ := by
  obtain ⟨_, ob, oo, e, _⟩ := h i hi
  exact ⟨ob, oo, e⟩
theorem cellsSum18 : Tryd.prog.cellsOf 74 = 32 := by kernel_rfl
theorem cellsRef18 : Tryd.prog.cellsOf 76 = 33 := by kernel_rfl
theorem cellsByte18 : Tryd.prog.cellsOf 5 = 1 := by kernel_rfl
theorem ref_fields : ∃ f0 f1 : Field, Tryd.prog.underlying 76 = some (.struct #[f0, f1]) ∧ (f0.type = 34 ∧ f0.offset = 0) ∧ (f1.type = 74 ∧ f1.offset = 1) :=
  ⟨_, _, Tryd.underlying76, ⟨rfl, rfl⟩, ⟨rfl, rfl⟩⟩
theorem cellsU32r : Tryd.prog.cellsOf 34 = 1 := by kernel_rfl
/-- Cells of a sum. -/
theorem sum_cells {H : Type} {enc : TypeId × Value → H} {W : World} {base : Nat} {sp : Nat → Bool} {held : Bool} {fuel : Nat} {cs : List Value} {y : DataW H × List MemPlace}
    (hl : cs.length = 32) (hf : DataW.trod enc Tryd.prog W base sp held fuel 74 cs = some y) : ∃ l : List Nat, cs = u8l l ∧ l.length = 32 ∧ ∀ x ∈ l, x < 256 := by
  cases fuel with
  | zero => simp [DataW.trod] at hf
  | succ m =>
    rw [DataW.trod_step] at hf
    unfold DataW.trodStep at hf
    simp only [Tryd.underlying74] at hf
    rw [if_pos (by rw [cellsSum18]; exact hl)] at hf
    simp only [Option.map_eq_some_iff] at hf
    obtain ⟨ys, hy, _⟩ := hf
    have each : ∀ i, i < 32 → ∃ a : Nat, a < 256 ∧ cs[i]? = some (.int .u8 (a : Int)) := fun i hi => by
      obtain ⟨y, hy1⟩ := mapM_each hy i (List.mem_range.2 hi)
      obtain ⟨a, ea, _, wa⟩ := DataW.trod_int Tryd.underlying5 hy1
      have wb := wf_u8 wa
      refine ⟨a.toNat, by omega, ?_⟩
      rw [cellsByte18, Nat.mul_one] at ea
      have h0 : ((cs.drop i).take 1)[0]? = some (.int .u8 a) := by rw [ea]; rfl
      rw [List.getElem?_take, if_pos (by decide), List.getElem?_drop, Nat.add_zero] at h0
      rw [h0]
      congr 2
      omega
    obtain ⟨f, hf⟩ := choose_lt each
    refine ⟨(List.range 32).map f, ?_, by simp, fun x hx => ?_⟩
    · apply List.ext_getElem?
      intro i
      by_cases hi : i < 32
      · rw [(hf i hi).2]
        simp [u8l, hi]
      · rw [List.getElem?_eq_none (by omega), List.getElem?_eq_none (by simp [u8l]; omega)]
    · obtain ⟨i, hi, rfl⟩ := List.mem_map.1 hx
      exact (hf i (List.mem_range.1 hi)).1
theorem open_ref {H : Type} {enc : TypeId × Value → H} {W : World} {base b0 : Nat} {sp : Nat → Bool} {held : Bool} {v : Value} {d : DataW H} {ps : List MemPlace} {r : Reach}
    (hval : Value.okWide Tryd.prog W r b0 76 v) (h : DataW.Trod enc Tryd.prog W base sp held 76 v d ps) : ∃ (x : Nat) (l : List Nat), v = .agg (refV x l) ∧ x < 4294967296 ∧ l.length = 32 ∧ ∀ y ∈ l, y < 256 := by
  obtain ⟨f0, f1, hu, ⟨t0, o0⟩, ⟨t1, o1⟩⟩ := ref_fields
  simp only [Value.okWide, hu] at hval
  obtain ⟨cs, rfl, hn, _⟩ := hval
  rw [cellsRef18] at hn
  obtain ⟨fuel, hf⟩ := h
  have hf : DataW.trod enc Tryd.prog W base sp held fuel 76 cs.toList = some (d, ps) := by simpa [Value.cells, hu] using hf
  obtain ⟨xs, k, hk, hxy, _, hxl, hfl⟩ := DataW.trod_struct hu hf
  match xs, hxl with
  | [y0, y1], _ =>
    have g0 := hfl 0 f0 rfl
    have g1 := hfl 1 f1 rfl
    rw [t0, o0, cellsU32r] at g0
    rw [t1, o1, cellsSum18] at g1
    obtain ⟨n0, e0, _, w0⟩ := DataW.trod_int Tryd.underlying34 g0
    have w0 := wf_u32 w0
    have hc : cs.toList.length = 33 := by simpa using hn
    obtain ⟨l, el, hl, hs⟩ := sum_cells (by rw [List.length_take, List.length_drop, hc]; rfl) g1
    refine ⟨n0.toNat, l, ?_, by omega, hl, hs⟩
    congr 1
    have e : cs.toList = refL n0.toNat l := by
      obtain ⟨c, rest, hcr⟩ : ∃ c rest, cs.toList = c :: rest := by
        cases hq : cs.toList with
        | nil => rw [hq] at hc; simp at hc
        | cons c rest => exact ⟨c, rest, rfl⟩
      rw [hcr] at e0 el hc ⊢
      simp at e0 el hc
      rw [List.take_of_length_le (by omega)] at el
      unfold refL
      rw [e0, el, Int.toNat_of_nonneg w0.1]
    unfold refV
    rw [← e]
end Go.Proofs.YtjhfoddhpmmjoaaDoor
