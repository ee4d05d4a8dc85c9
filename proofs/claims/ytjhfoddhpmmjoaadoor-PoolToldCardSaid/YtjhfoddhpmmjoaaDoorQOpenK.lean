/-
  How arguments open that are arrays of bytes. No condition.
-/
import Derived.Test.YtjhfoddhpmmjoaaDoorQKit
import Derived.Test.YtjhfoddhpmmjoaaDoorQRowB
import Derived.WideKeyArr2
import Derived.Deep.Matrix
import Derived.Test.YtjhfoddhpmmjoaaDoorProg
namespace Go.Proofs.YtjhfoddhpmmjoaaDoor
set_option maxRecDepth 100000
open Go.ChangeShapes Go.WideShapes Go.ChangeAt Go.RowKit Go.Deep


theorem wf_u8 {n : Int} (h : (Lit.int .u8 n).wf = true) : 0 ≤ n ∧ n < 256 := by
  simp only [Lit.wf, IntKind.min, IntKind.max, IntKind.signed, IntKind.bits] at h
  simp at h
  omega
theorem wf_u64 {n : Int} (h : (Lit.int .u64 n).wf = true) : 0 ≤ n ∧ n < 18446744073709551616 := by
  simp only [Lit.wf, IntKind.min, IntKind.max, IntKind.signed, IntKind.bits] at h
  simp at h
  omega
theorem wf_u32 {n : Int} (h : (Lit.int .u32 n).wf = true) : 0 ≤ n ∧ n < 4294967296 := by
  simp only [Lit.wf, IntKind.min, IntKind.max, IntKind.signed, IntKind.bits] at h
  simp at h
  omega
theorem mapM_each {α β : Type} {f : α → Option β} : ∀ {L : List α} {ys : List β}, L.mapM f = some ys → ∀ i ∈ L, ∃ y, f i = some y
  | [], _, _, i, hi => by simp at hi
  | a :: L, ys, h, i, hi => by
    rw [List.mapM_cons] at h
    simp only [bind, Option.bind_eq_some_iff, pure, Option.some.injEq] at h
    obtain ⟨y, hy, zs, hzs, _⟩ := h
    rcases List.mem_cons.1 hi with rfl | hi
    · exact ⟨y, hy⟩
    · exact mapM_each hzs i hi

theorem open_arr8 {T : TypeId} {n : Nat} (A : WideMaps.ArrKey Tryd.prog T 5 n) {H : Type} {enc : TypeId × Value → H} {W : World} {base b0 : Nat} {sp : Nat → Bool} {held : Bool} {v : Value} {d : DataW H} {ps : List MemPlace} {r : Reach}
    (hval : Value.okWide Tryd.prog W r b0 T v) (h : DataW.Trod enc Tryd.prog W base sp held T v d ps) : ∃ l : List Nat, v = .agg (u8s l) ∧ l.length = n ∧ ∀ x ∈ l, x < 256 := by
  obtain ⟨xs, rfl, hn⟩ := WideMaps.okWide_arr A hval
  obtain ⟨fuel, hf⟩ := h
  cases fuel with
  | zero => simp [DataW.trod] at hf
  | succ m =>
    rw [DataW.trod_step] at hf
    unfold DataW.trodStep at hf
    simp only [A.hu, Value.cells] at hf
    rw [if_pos (by rw [A.size]; simpa using hn)] at hf
    simp only [Option.map_eq_some_iff] at hf
    obtain ⟨ys, hy, _⟩ := hf
    have each : ∀ i, i < n → ∃ a : Nat, a < 256 ∧ xs[i]? = some (.int .u8 (a : Int)) := fun i hi => by
      obtain ⟨y, hy1⟩ := mapM_each hy i (List.mem_range.2 hi)
      obtain ⟨a, ea, _, wa⟩ := DataW.trod_int Tryd.underlying5 hy1
      have wb := wf_u8 wa
      refine ⟨a.toNat, by omega, ?_⟩
      rw [A.one, Nat.mul_one] at ea
      have h0 : ((xs.toList.drop i).take 1)[0]? = some (.int .u8 a) := by rw [ea]; rfl
      rw [List.getElem?_take, if_pos (by decide), List.getElem?_drop, Nat.add_zero] at h0
      rw [← Array.getElem?_toList, h0]
      congr 2
      omega
    obtain ⟨f, hf⟩ := choose_lt each
    refine ⟨(List.range n).map f, ?_, by simp, fun x hx => ?_⟩
    · congr 1
      apply Array.ext
      · simp [u8s, hn]
      · intro i h1 h2
        have := (hf i (by omega)).2
        rw [Array.getElem?_eq_getElem h1] at this
        have e := Option.some.inj this
        rw [e]
        simp [u8s]
    · obtain ⟨i, hi, rfl⟩ := List.mem_map.1 hx
      exact (hf i (List.mem_range.1 hi)).1

end Go.Proofs.YtjhfoddhpmmjoaaDoor
