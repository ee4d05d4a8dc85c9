/-
  How an argument opens that is a slot: 104 bytes in three arrays. No condition.
  How arguments open: bytes, rows of bytes. No condition.
-/
import Derived.Test.YtecmagenlbnchaaQOpenK
import Derived.Test.YtecmagenlbnchaaQOctetPut
import Derived.Test.YtecmagenlbnchaaQKit
import Derived.Deep.Matrix
namespace Go.Proofs.Ytecmagenlbnchaa
set_option maxRecDepth 100000
open Go.ChangeShapes Go.WideShapes Go.ChangeAt Go.RowKit Go.Deep

theorem trod_arr8 {T : TypeId} {n : Nat} (A : WideMaps.ArrKey Try.prog T 5 n) {H : Type} {enc : TypeId × Value → H} {W : World} {base : Nat} {sp : Nat → Bool} {held : Bool} {fuel : Nat} {xs : List Value} {y : DataW H × List MemPlace}
    (hn : xs.length = n) (hf : DataW.trod enc Try.prog W base sp held fuel T xs = some y) : ∃ l : List Nat, xs = u8l l ∧ l.length = n ∧ ∀ x ∈ l, x < 256 := by
  cases fuel with
  | zero => simp [DataW.trod] at hf
  | succ m =>
    rw [DataW.trod_step] at hf
    unfold DataW.trodStep at hf
    simp only [A.hu] at hf
    rw [if_pos (by rw [A.size]; exact hn)] at hf
    simp only [Option.map_eq_some_iff] at hf
    obtain ⟨ys, hy, _⟩ := hf
    have each : ∀ i, i < n → ∃ a : Nat, a < 256 ∧ xs[i]? = some (.int .u8 (a : Int)) := fun i hi => by
      obtain ⟨y, hy1⟩ := mapM_each hy i (List.mem_range.2 hi)
      obtain ⟨a, ea, _, wa⟩ := DataW.trod_int Try.underlying5 hy1
      have wb := wf_u8 wa
      refine ⟨a.toNat, by omega, ?_⟩
      rw [A.one, Nat.mul_one] at ea
      have h0 : ((xs.drop i).take 1)[0]? = some (.int .u8 a) := by rw [ea]; rfl
      rw [List.getElem?_take, if_pos (by decide), List.getElem?_drop, Nat.add_zero] at h0
      rw [h0]
      congr 2
      omega
    obtain ⟨f, hf⟩ := choose_lt each
    refine ⟨(List.range n).map f, ?_, by simp, fun x hx => ?_⟩
    · apply List.ext_getElem?
      intro i
      by_cases hi : i < n
      · rw [(hf i hi).2]; simp [u8l, hi]
      · rw [List.getElem?_eq_none (by omega), List.getElem?_eq_none (by simp [u8l]; omega)]
    · obtain ⟨i, hi, rfl⟩ := List.mem_map.1 hx
      exact (hf i (List.mem_range.1 hi)).1
theorem slot_fields : ∃ f0 f1 f2 : Field, Try.prog.underlying 51 = some (.struct #[f0, f1, f2]) ∧ (f0.type = 22 ∧ f0.offset = 0) ∧ (f1.type = 22 ∧ f1.offset = 32) ∧ (f2.type = 49 ∧ f2.offset = 64) :=
  ⟨_, _, _, Try.underlying51, ⟨rfl, rfl⟩, ⟨rfl, rfl⟩, ⟨rfl, rfl⟩⟩
theorem open_slot {H : Type} {enc : TypeId × Value → H} {W : World} {base b0 : Nat} {sp : Nat → Bool} {held : Bool} {v : Value} {d : DataW H} {ps : List MemPlace} {r : Reach}
    (hval : Value.okWide Try.prog W r b0 51 v) (h : DataW.Trod enc Try.prog W base sp held 51 v d ps) :
    ∃ s C X : List Nat, v = .agg (u8s (s ++ (C ++ X))) ∧ (s.length = 32 ∧ ∀ x ∈ s, x < 256) ∧ (C.length = 32 ∧ ∀ x ∈ C, x < 256) ∧ (X.length = 40 ∧ ∀ x ∈ X, x < 256) := by
  obtain ⟨f0, f1, f2, hu, ⟨t0, o0⟩, ⟨t1, o1⟩, ⟨t2, o2⟩⟩ := slot_fields
  have c32 : Try.prog.cellsOf 22 = 32 := by kernel_rfl
  have c40 : Try.prog.cellsOf 49 = 40 := by kernel_rfl
  have c104 : Try.prog.cellsOf 51 = 104 := by kernel_rfl
  have A32 : WideMaps.ArrKey Try.prog 22 5 32 := ⟨Try.underlying22, by kernel_rfl, by kernel_rfl, by kernel_rfl⟩
  have A40 : WideMaps.ArrKey Try.prog 49 5 40 := ⟨Try.underlying49, by kernel_rfl, by kernel_rfl, by kernel_rfl⟩
  simp only [Value.okWide, hu] at hval
  obtain ⟨cs, rfl, hn, _⟩ := hval
  rw [c104] at hn
  obtain ⟨fuel, hf⟩ := h
  cases fuel with
  | zero => simp [DataW.trod] at hf
  | succ m =>
    rw [DataW.trod_step] at hf
    unfold DataW.trodStep at hf
    simp only [hu, Value.cells] at hf
    rw [if_pos (by rw [c104]; simpa using hn)] at hf
    simp only [Option.map_eq_some_iff] at hf
    obtain ⟨ys, hy, _⟩ := hf
    obtain ⟨y0, h0⟩ := mapM_each hy f0 (by simp)
    obtain ⟨y1, h1⟩ := mapM_each hy f1 (by simp)
    obtain ⟨y2, h2⟩ := mapM_each hy f2 (by simp)
    rw [t0, o0, c32] at h0
    rw [t1, o1, c32] at h1
    rw [t2, o2, c40] at h2
    obtain ⟨s, es, ls, ss⟩ := trod_arr8 A32 (by simp; omega) h0
    obtain ⟨C, eC, lC, sC⟩ := trod_arr8 A32 (by simp; omega) h1
    obtain ⟨X, eX, lX, sX⟩ := trod_arr8 A40 (by simp; omega) h2
    refine ⟨s, C, X, ?_, ⟨ls, ss⟩, ⟨lC, sC⟩, ⟨lX, sX⟩⟩
    congr 1
    apply Array.ext'
    have e : cs.toList = (cs.toList.drop 0).take 32 ++ ((cs.toList.drop 32).take 32 ++ (cs.toList.drop 64).take 40) := by
      have hl : cs.toList.length = 104 := by simpa using hn
      generalize cs.toList = L at hl
      rw [List.drop_zero, List.take_of_length_le (l := L.drop 64) (by simp; omega), show L.drop 64 = (L.drop 32).drop 32 by rw [List.drop_drop], List.take_append_drop, List.take_append_drop]
    rw [e, es, eC, eX]
    simp [u8s, u8l]
end Go.Proofs.Ytecmagenlbnchaa
namespace Go.Proofs.Ytecmagenlbnchaa
set_option maxRecDepth 100000
open Go.ChangeShapes Go.WideShapes Go.ChangeAt Go.RowKit Go.Deep

theorem cellsU8' : Try.prog.cellsOf 5 = 1 := by kernel_rfl
theorem cellsBytes : Try.prog.cellsOf 25 = 1 := by kernel_rfl
/-- The bytes of numbers. -/
def natsOf (zs : List Int) : List Nat := zs.map Int.toNat
theorem text_of {W : World} {a : Addr} {len cap : Nat} {zs : List Int} (hl : len ≤ cap) (hz : zs.length = cap) (hc : ∀ i, i < zs.length → W.cell? (a.add i) = some (.int .u8 (zs.getD i 0))) (hw : ∀ n ∈ zs, (Lit.int .u8 n).wf = true) :
    ∃ t : List Nat, t.length = len ∧ TextAt W (.slice (some a) len cap) t := by
  refine ⟨natsOf (zs.take len), by simp [natsOf]; omega, ?_⟩
  have hlen : (natsOf (zs.take len)).length = len := by simp [natsOf]; omega
  have key : ∀ i, i < len → byt (natsOf (zs.take len)) i < 256 ∧ ∃ ob oo, some a = some ⟨ob, oo, none⟩ ∧ W.cell? ⟨ob, oo + i, none⟩ = some (.int .u8 (byt (natsOf (zs.take len)) i : Nat)) := fun i hi => by
    have hiz : i < zs.length := by omega
    have hcell := hc i hiz
    have hmem : zs[i] ∈ zs := List.getElem_mem hiz
    have hwf := wf_u8 (hw _ hmem)
    have eg : zs.getD i 0 = zs[i] := by simp [List.getD, hiz]
    have eb : byt (natsOf (zs.take len)) i = (zs[i]).toNat := by
      simp only [byt, natsOf, List.getD, List.getElem?_map]
      rw [List.getElem?_take, if_pos hi, List.getElem?_eq_getElem hiz]
      rfl
    rw [eb]
    refine ⟨by omega, ?_⟩
    obtain ⟨ab, ao, asp⟩ := a
    cases asp with
    | none =>
      refine ⟨ab, ao, rfl, ?_⟩
      rw [Addr.add_lit] at hcell
      rw [hcell, eg]
      congr 2
      omega
    | some s =>
      have h0 := hc 0 (by omega)
      simp only [Addr.add, World.cell?, if_true] at h0
      split at h0 <;> simp at h0
  exact ⟨_, cap, by rw [hlen], by rw [hlen]; exact hl, fun e => by simp at e, by rw [hlen]; exact key⟩

set_option maxRecDepth 100000 in
theorem open_bytes {H : Type} {enc : TypeId × Value → H} {W : World} {base b0 : Nat} {held : Bool} {v : Value} {d : DataW H} {ps : List MemPlace} {r : Reach}
    (hval : Value.okWide Try.prog W r b0 25 v) (h : DataW.Trod enc Try.prog W base (fun _ => true) held 25 v d ps) :
    ∃ ao cap t, v = .slice ao t.length cap ∧ TextAt W v t ∧ t.length < 9223372036854775808 := by
  obtain ⟨ao, len, cap, rfl⟩ := okWide_slice Try.underlying25 hval
  obtain ⟨fuel, hf⟩ := h
  rcases open_ints Try.underlying25 Try.underlying5 cellsU8' hf with ⟨hc, _⟩ | ⟨a, len', cap', zs, hc, _, hl, hm, hz, _, hcell, hw⟩
  · simp [Value.cells] at hc
    obtain ⟨rfl, rfl, rfl⟩ := hc
    exact ⟨none, 0, [], rfl, TextAt.nil W, by simp⟩
  · simp [Value.cells] at hc
    obtain ⟨rfl, rfl, rfl⟩ := hc
    obtain ⟨t, rfl, ht⟩ := text_of hl (by simpa using hz) hcell hw
    exact ⟨_, _, t, rfl, ht, by unfold maxLen at hm; omega⟩

set_option maxRecDepth 100000 in
theorem open_texts {H : Type} {enc : TypeId × Value → H} {W : World} {base b0 : Nat} {held : Bool} {v : Value} {d : DataW H} {ps : List MemPlace} {r : Reach}
    (hval : Value.okWide Try.prog W r b0 44 v) (h : DataW.Trod enc Try.prog W base (fun _ => true) held 44 v d ps) :
    ∃ ao cap ls, v = .slice ao (List.length ls) cap ∧ ls.length ≤ cap ∧ TextsAt W ao ls ∧ ls.length < 9223372036854775808 := by
  obtain ⟨ao, len, cap, rfl⟩ := okWide_slice Try.underlying44 hval
  obtain ⟨fuel, hf⟩ := h
  rcases open_int_rows Try.underlying44 Try.underlying25 Try.underlying5 cellsBytes cellsU8' hf with ⟨hc, _⟩ | ⟨a, len', cap', A, L, C, Z, hc, _, hl, hm, _, hx⟩
  · simp [Value.cells] at hc
    obtain ⟨rfl, rfl, rfl⟩ := hc
    exact ⟨none, 0, [], rfl, Nat.le_refl _, fun i hi => by simp at hi, by simp⟩
  · simp [Value.cells] at hc
    obtain ⟨rfl, rfl, rfl⟩ := hc
    have each : ∀ i, i < len → ∃ t : List Nat, t.length = L i ∧ TextAt W (.slice (A i) (L i) (C i)) t := fun i hi => by
      obtain ⟨h1, h2, h3, h4, h5, h6, h7⟩ := hx i (by omega)
      cases hA : A i with
      | none =>
        have hc0 : C i = 0 := h6 hA
        have hl0 : L i = 0 := by omega
        rw [hc0, hl0]
        exact ⟨[], rfl, TextAt.nil W⟩
      | some a' =>
        obtain ⟨_, h8⟩ := h7 a' hA
        exact text_of h2 h4 (fun j hj => h8 j (by omega)) h5
    obtain ⟨T, hT⟩ := choose_lt each
    have hlen : ((List.range len).map T).length = len := by simp
    refine ⟨some a, cap, (List.range len).map T, by rw [hlen], by rw [hlen]; exact hl, fun i hi => ?_, by rw [hlen]; unfold maxLen at hm; omega⟩
    rw [hlen] at hi
    have eT : ((List.range len).map T).getD i [] = T i := by simp [List.getD, hi]
    obtain ⟨h1, _⟩ := hx i (by omega)
    obtain ⟨hTl, hTt⟩ := hT i hi
    obtain ⟨ai, ci, e, g1, g2, g3⟩ := hTt.ex
    obtain ⟨rfl, _, rfl⟩ : A i = ai ∧ L i = (T i).length ∧ C i = ci := by injection e with e1 e2 e3; exact ⟨e1, e2, e3⟩
    rw [eT]
    obtain ⟨ab, ao, asp⟩ := a
    cases asp with
    | none =>
      refine ⟨ab, ao, rfl, A i, C i, ?_, g1, g3, g2⟩
      rw [Addr.add_lit] at h1
      rw [h1, hTl]
    | some s =>
      obtain ⟨h0, _⟩ := hx 0 (by omega)
      simp only [Addr.add, World.cell?, if_true] at h0
      split at h0 <;> simp at h0

end Go.Proofs.Ytecmagenlbnchaa
