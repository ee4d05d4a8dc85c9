/-
  Slices cut: 's[lo:hi]' of a slice whose elements are one cell; texts and rows of texts cut. Conditions: Go's own bounds.
-/
import Derived.Test.YtjbmdeppoobccaaText
namespace Go.Proofs.Ytjbmdeppoobccaa
open Go.RowKit

/-- Where a slice lies that was cut at lo. -/
def cutA (ao : Option Addr) (cap lo : Nat) : Option Addr := if cap = lo then ao else ao.map (·.add lo)
theorem cutA_zero (ao : Option Addr) (cap : Nat) : cutA ao cap 0 = ao := by
  unfold cutA
  split
  · rfl
  · cases ao with
    | none => rfl
    | some a => simp [Addr.add]
theorem cutA_some {ob oo cap lo : Nat} (h : lo < cap) : cutA (some ⟨ob, oo, none⟩) cap lo = some ⟨ob, oo + lo, none⟩ := by
  unfold cutA
  rw [if_neg (by omega), Option.map_some, Addr.add_lit]
theorem run_size {P : Program} {e : TypeId} (hs : (P.info? e).map (·.size) = some 1) (x : World) : (sizeOf e).run P x = .ok 1 x := by
  cases hq : P.info? e with
  | none => simp [hq] at hs
  | some i => simp [hq] at hs; simp [sizeOf, typeInfo, hq, hs]
theorem elem_of {P : Program} {T e : TypeId} (hu : P.underlying T = some (.slice e)) : P.elem T = e := by simp [Program.elem, hu]
section
variable {P : Program} {T e : TypeId}
theorem run_cut_lh (hu : P.underlying T = some (.slice e)) (hs : (P.info? e).map (·.size) = some 1) (ao : Option Addr) (len cap lo hi : Nat) (h1 : lo ≤ hi) (h2 : hi ≤ cap) (l h : Int) (el : l = lo) (eh : h = hi) :
    ∀ x, (Instr.slice T (.slice ao len cap) (some (.int .i64 l)) (some (.int .i64 h)) none).run P x = .ok (.slice (cutA ao cap lo) (hi - lo) (cap - lo)) x := fun x => by
  subst el eh
  rw [run_slice_lh (P := P) x T ao len cap (by rw [elem_of hu]; exact hu) .i64 .i64 lo hi (by omega) (by omega) (by omega), elem_of hu, run_size hs]
  simp only [Result.andThen, sliced, Int.toNat_natCast, Nat.mul_one]
  rfl
theorem run_cut_l (hu : P.underlying T = some (.slice e)) (hs : (P.info? e).map (·.size) = some 1) (ao : Option Addr) (len cap lo : Nat) (h1 : lo ≤ len) (l : Int) (el : l = lo) :
    ∀ x, (Instr.slice T (.slice ao len cap) (some (.int .i64 l)) none none).run P x = .ok (.slice (cutA ao cap lo) (len - lo) (cap - lo)) x := fun x => by
  subst el
  rw [run_slice_l (P := P) x T ao len cap (by rw [elem_of hu]; exact hu) .i64 lo (by omega) (by omega), elem_of hu, run_size hs]
  simp only [Result.andThen, sliced, Int.toNat_natCast, Nat.mul_one]
  rfl
theorem run_cut_h (hu : P.underlying T = some (.slice e)) (hs : (P.info? e).map (·.size) = some 1) (ao : Option Addr) (len cap hi : Nat) (h2 : hi ≤ cap) (h : Int) (eh : h = hi) :
    ∀ x, (Instr.slice T (.slice ao len cap) none (some (.int .i64 h)) none).run P x = .ok (.slice ao hi cap) x := fun x => by
  subst eh
  rw [run_slice_h (P := P) x T ao len cap (by rw [elem_of hu]; exact hu) .i64 hi (by omega) (by omega), elem_of hu, run_size hs]
  simp only [Result.andThen, sliced, Int.toNat_natCast, Nat.mul_one, Nat.sub_zero]
  congr 2
  exact cutA_zero ao cap
end

theorem arr_of {P : Program} {T e : TypeId} {n : Nat} (hu : P.underlying T = some (.array n e)) : P.arrayLen T = n ∧ P.elem T = e := by simp [Program.arrayLen, Program.elem, hu]
/-- 'x[:hi]', 'x[lo:]', 'x[lo:hi]' of an array. -/
theorem run_arr_h {P : Program} {T e : TypeId} {n : Nat} (hu : P.underlying T = some (.array n e)) (hs : (P.info? e).map (·.size) = some 1) (b hi : Nat) (h2 : hi ≤ n) (h : Int) (eh : h = hi) (h0 : 0 < n) :
    ∀ x, (Instr.sliceAt T (.pointer (some ⟨b, 0, none⟩)) none (some (.int .i64 h)) none).run P x = .ok (.slice (some ⟨b, 0, none⟩) hi n) x := fun x => by
  subst eh
  obtain ⟨q1, q2⟩ := arr_of hu
  rw [run_sliceAt_array_h (P := P) x T _ (by rw [q1, q2]; exact hu) .i64 hi (by omega) (by rw [q1]; omega), q1, q2, run_size hs]
  simp only [Result.andThen, slicedAt, Int.toNat_natCast, Nat.mul_one, Nat.sub_zero]
  congr 3
  split
  · rfl
  · simp [Addr.add]

/-- A text cut is a text. -/
theorem TextAt.cut {w : World} {ao : Option Addr} {t : List Nat} {cap lo hi : Nat} (h : TextAt w (.slice ao t.length cap) t) (h1 : lo ≤ hi) (h2 : hi ≤ t.length) : TextAt w (.slice (cutA ao cap lo) (hi - lo) (cap - lo)) ((t.drop lo).take (hi - lo)) := by
  obtain ⟨ao', cap', e, g1, g2, g3⟩ := h.ex
  cases e
  have hl : ((t.drop lo).take (hi - lo)).length = hi - lo := by simp; omega
  refine ⟨_, cap - lo, by rw [hl], by omega, fun e => ?_, fun i hi' => ?_⟩
  · unfold cutA at e
    split at e
    · omega
    · have : ao = none := by cases ao <;> simp_all
      have := g2 this
      omega
  · rw [hl] at hi'
    obtain ⟨q1, ob, oo, rfl, q2⟩ := g3 (lo + i) (by omega)
    have eb : byt ((t.drop lo).take (hi - lo)) i = byt t (lo + i) := by
      simp only [byt, List.getD]
      rw [List.getElem?_take, if_pos (by omega), List.getElem?_drop]
    rw [eb]
    exact ⟨q1, ob, oo + lo, cutA_some (by omega), by rw [Nat.add_assoc]; exact q2⟩
theorem TextAt.cutLo {w : World} {ao : Option Addr} {t : List Nat} {cap lo : Nat} (h : TextAt w (.slice ao t.length cap) t) (h1 : lo ≤ t.length) : TextAt w (.slice (cutA ao cap lo) (t.length - lo) (cap - lo)) (t.drop lo) := by
  have := h.cut h1 (Nat.le_refl _)
  rwa [List.take_of_length_le (by simp)] at this
theorem TextAt.cutHi {w : World} {ao : Option Addr} {t : List Nat} {cap hi : Nat} (h : TextAt w (.slice ao t.length cap) t) (h2 : hi ≤ t.length) : TextAt w (.slice ao hi cap) (t.take hi) := by
  have := h.cut (Nat.zero_le hi) h2
  rwa [cutA_zero, List.drop_zero, Nat.sub_zero, Nat.sub_zero] at this
/-- A row of texts, its first ones. -/
theorem TextsAt.take {w : World} {ao : Option Addr} {ls : List (List Nat)} (h : TextsAt w ao ls) (k : Nat) : TextsAt w ao (ls.take k) := fun i hi => by
  have hi' : i < k ∧ i < ls.length := by simp at hi; omega
  have e : (ls.take k).getD i [] = ls.getD i [] := by simp [List.getD, hi'.1]
  rw [e]; exact h i hi'.2

end Go.Proofs.Ytjbmdeppoobccaa
