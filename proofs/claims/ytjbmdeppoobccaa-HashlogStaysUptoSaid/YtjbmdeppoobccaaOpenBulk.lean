/-
  Rows of bytes whose bulk is bounded: none is long. No condition.
-/
import Derived.Test.YtjbmdeppoobccaaOpenB
import Derived.Test.YtjbmdeppoobccaaRows
namespace Go.Proofs.Ytjbmdeppoobccaa
open Go.ChangeShapes Go.WideShapes Go.ChangeAt Go.RowKit Go.Deep

theorem bulk_one {H : Type} (d : DataW H) : 1 ≤ Rows.uptoBulk d := by
  cases d with
  | lit l => cases l <;> simp [Rows.uptoBulk]
  | nil => simp [Rows.uptoBulk]
  | ptr d => simp [Rows.uptoBulk]
  | slice elems spare => simp [Rows.uptoBulk]
  | agg parts => simp [Rows.uptoBulk]
  | iface t d => simp [Rows.uptoBulk]
  | map entries => simp [Rows.uptoBulk]
  | held h => simp [Rows.uptoBulk]
theorem bulk_part {H : Type} {d : DataW H} {l : List (DataW H)} (h : d ∈ l) : Rows.uptoBulk d ≤ Rows.uptoBulkAll l := by
  induction l with
  | nil => cases h
  | cons x r ih =>
    simp only [Rows.uptoBulkAll]
    cases List.mem_cons.1 h with
    | inl e => subst e; omega
    | inr e => have := ih e; omega
theorem bulk_length {H : Type} (l : List (DataW H)) : l.length ≤ Rows.uptoBulkAll l := by
  induction l with
  | nil => simp [Rows.uptoBulkAll]
  | cons x r ih => have := bulk_one x; simp only [Rows.uptoBulkAll, List.length_cons]; omega
theorem bulk_slice {H : Type} (elems spare : List (DataW H)) : elems.length + spare.length + 1 ≤ Rows.uptoBulk (.slice elems spare) := by
  have h1 := bulk_length elems
  have h2 := bulk_length spare
  simp only [Rows.uptoBulk]
  omega
theorem bulk_elem {H : Type} {elems spare : List (DataW H)} {d : DataW H} (h : d ∈ elems) : Rows.uptoBulk d + 1 ≤ Rows.uptoBulk (.slice elems spare) := by
  have h1 := bulk_part h
  simp only [Rows.uptoBulk]
  omega
theorem bulk_bound {H : Type} {ds : List (DataW H)} {d : DataW H} (hd : d ∈ ds) (hk : Rows.uptoSmall H ds = true) : Rows.uptoBulk d ≤ 1048576 := by
  have h : Rows.uptoBulkAll ds ≤ 1048576 := of_decide_eq_true hk
  exact Nat.le_trans (bulk_part hd) h

set_option maxRecDepth 100000 in
theorem short_texts {H : Type} {enc : TypeId × Value → H} {W : World} {base : Nat} {held : Bool} {ao : Option Addr} {cap : Nat} {ls : List (List Nat)} {d : DataW H} {ps : List MemPlace}
    (ht : TextsAt W ao ls) (h : DataW.Trod enc Try.prog W base (fun _ => true) held 23 (.slice ao ls.length cap) d ps) (hb : Rows.uptoBulk d ≤ 1048576) : ∀ j, (ls.getD j []).length < 1000000000 := fun j => by
  by_cases hj : j < ls.length
  · obtain ⟨fuel, hf⟩ := h
    rcases open_int_rows Try.underlying23 Try.underlying22 Try.underlying5 cellsBytes cellsU8' hf with ⟨hc, _⟩ | ⟨a, len', cap', A, L, C, Z, hc, _, hl, hm, hxd, hx⟩
    · simp [Value.cells] at hc
      obtain ⟨_, hz, _⟩ := hc
      simp [hz] at hj
    · simp [Value.cells] at hc
      obtain ⟨rfl, rfl, rfl⟩ := hc
      simp only [Prod.mk.injEq] at hxd
      obtain ⟨rfl, _⟩ := hxd
      obtain ⟨h1, h2, h3, h4, h5, h6, h7⟩ := hx j (by omega)
      obtain ⟨ob, oo, e, ai, ci, g1, _⟩ := ht j hj
      injection e with e
      subst e
      rw [Addr.add_lit] at h1
      rw [h1] at g1
      have eL : L j = (ls.getD j []).length := by
        injection g1 with g1
        injection g1 with _ e2 _
      rw [← eL]
      cases hA : A j with
      | none =>
        have := h6 hA
        omega
      | some a' =>
        have hmem : intRow (H := H) .u8 (A j) (L j) (Z j) ∈ (List.range ls.length).map fun r => intRow .u8 (A r) (L r) (Z r) := List.mem_map.2 ⟨j, List.mem_range.2 hj, rfl⟩
        have hbj := bulk_elem (spare := ((List.range (cap - ls.length)).map fun q => intRow .u8 (A (ls.length + q)) (L (ls.length + q)) (Z (ls.length + q)))) hmem
        rw [hA] at hbj
        have hs : L j ≤ Rows.uptoBulk (intRow (H := H) .u8 (some a') (L j) (Z j)) := by
          refine Nat.le_trans ?_ (bulk_slice _ _)
          simp [lits]
          omega
        omega
  · have : ls.getD j [] = [] := by simp [List.getD, Nat.le_of_not_lt hj]
    rw [this]; decide
end Go.Proofs.Ytjbmdeppoobccaa
