/-
  Package bits: what each method of a row does, over the program of this seat. 'RowAt w b bw bm n m L': at block b of w lies a row of n places, place i held L i times.
-/
import Derived.Test.YtjhfoddhpmmjoaaDoorProg
import Derived.Test.YtjhfoddhpmmjoaaDoorQRowB
import Derived.Test.YtjhfoddhpmmjoaaDoorQTzPlain
import Derived.BigQuiet
import Derived.Deep.QuietTactic
namespace Go.Proofs.YtjhfoddhpmmjoaaDoor
set_option maxRecDepth 100000
open Go.RowKit Go.Maps

theorem law3 : Keyed Tryd.prog 3 := int_keyed Tryd.underlying3
theorem zero3 (w : World) : (zeroValue 3).run Tryd.prog w = .ok (.int .i64 0) w := by kernel_rfl

/-- How many words n places take. -/
def nw (n : Nat) : Nat := (n + 63) / 64

/-- How many of the first n places are held. -/
def tk (L : Nat → Nat) : Nat → Nat
  | 0 => 0
  | n + 1 => tk L n + if 0 < L n then 1 else 0

theorem tk_le (L : Nat → Nat) : ∀ n, tk L n ≤ n
  | 0 => Nat.le_refl _
  | n + 1 => by have := tk_le L n; simp only [tk]; split <;> omega

def wordCells (L : Nat → Nat) (n : Nat) : Array Value := ((List.range (nw n)).map fun j => Value.int .u64 (wordOf L j)).toArray

theorem wordCells_get (L : Nat → Nat) {n j : Nat} (h : j < nw n) : (wordCells L n)[j]? = some (.int .u64 (wordOf L j)) := by
  simp [wordCells, h]

/-- What the map of a row tells: beyond the first time. -/
def More (D : DataW Unit) (L : Nat → Nat) : Prop := ∀ i : Nat, i < 65536 → D.atKey (.int .i64 i) (.lit (.int .i64 0)) = .lit (.int .i64 ((L i - 1 : Nat) : Int))

structure RowAt (w : World) (b bw bm n m : Nat) (L : Nat → Nat) : Prop where
  lo : 1 ≤ n
  hi : n ≤ 65536
  off : ∀ i, n ≤ i → L i = 0
  most : ∀ i, L i ≤ 2147483647
  row : w.heap[b]? = some (.cells #[.int .i64 n, .slice (some ⟨bw, 0, none⟩) (nw n) (nw n), .map (some bm), .int .i64 (tk L n)] 132 (0, 0))
  words : w.heap[bw]? = some (.cells (wordCells L n) 61 (0, 0))
  map : ∃ D, w.ownsMap Tryd.prog 3 (plainElem Tryd.prog 3) bm m D ∧ More D L

/-- A row lies on where its blocks are as they were. -/
theorem RowAt.stay {w w' : World} {b bw bm n m : Nat} {L : Nat → Nat} (h : RowAt w b bw bm n m L) {S : Nat → Prop} (u : Upd S w w') (h1 : ¬ S b) (h2 : ¬ S bw) (h3 : ¬ S bm) : RowAt w' b bw bm n m L := by
  obtain ⟨D, hD, hM⟩ := h.map
  exact ⟨h.lo, h.hi, h.off, h.most, u.at h.row h1, u.at h.words h2, D, ownsMap_at hD (u.block bm hD.lt h3), hM⟩

theorem size_nil (w : World) : Calls Tryd.prog 61 #[.pointer none] w fun e w' => e = .returned (.int .i64 0) ∧ w = w' := by
  go_enter Tryd.func61, Tryd.ntmps61
  go_wp2
  go_ret
  exact ⟨rfl, rfl⟩

theorem size_any (b o : Nat) (n : Int) (w : World) (c0 : w.cell? ⟨b, o, none⟩ = some (.int .i64 n)) :
    Calls Tryd.prog 61 #[.pointer (some ⟨b, o, none⟩)] w fun e w' => e = .returned (.int .i64 n) ∧ w = w' := by
  go_enter Tryd.func61, Tryd.ntmps61
  go_wp2
  go_ret
  exact ⟨rfl, rfl⟩

theorem there_nil (i : Int) (w : World) :
    Calls Tryd.prog 73 #[.pointer none, .int .i64 i] w fun e w' => e = .returned (.int .i64 6) ∧ w = w' := by
  go_enter Tryd.func73, Tryd.ntmps73
  go_wp2_with (go_at_call 61; refine (size_nil _).mono ?_; rintro e w' ⟨rfl, rfl⟩)
  go_ret
  exact ⟨rfl, rfl⟩

theorem there_zero (b o : Nat) (i : Int) (w : World) (c0 : w.cell? ⟨b, o, none⟩ = some (.int .i64 0)) :
    Calls Tryd.prog 73 #[.pointer (some ⟨b, o, none⟩), .int .i64 i] w fun e w' => e = .returned (.int .i64 6) ∧ w = w' := by
  go_enter Tryd.func73, Tryd.ntmps73
  go_wp2_with (go_at_call 61; refine (size_any _ _ _ _ c0).mono ?_; rintro e w' ⟨rfl, rfl⟩)
  go_ret
  exact ⟨rfl, rfl⟩

theorem there_ok (b o : Nat) (n i : Int) (w : World) (c0 : w.cell? ⟨b, o, none⟩ = some (.int .i64 n)) (h0 : 0 ≤ i) (h1 : i < n) :
    Calls Tryd.prog 73 #[.pointer (some ⟨b, o, none⟩), .int .i64 i] w fun e w' => e = .returned (.int .i64 0) ∧ w = w' := by
  have hn : (n == 0) = false := by simp; omega
  go_enter Tryd.func73, Tryd.ntmps73
  go_wp2_with (go_at_call 61; refine (size_any _ _ _ _ c0).mono ?_; rintro e w' ⟨rfl, rfl⟩)
  go_ret
  exact ⟨rfl, rfl⟩

theorem there_out (b o : Nat) (n i : Int) (w : World) (c0 : w.cell? ⟨b, o, none⟩ = some (.int .i64 n)) (hp : 0 < n) (h : i < 0 ∨ n ≤ i) :
    Calls Tryd.prog 73 #[.pointer (some ⟨b, o, none⟩), .int .i64 i] w fun e w' => e = .returned (.int .i64 1) ∧ w = w' := by
  have hn : (n == 0) = false := by simp; omega
  by_cases h0 : i < 0
  · clear h
    go_enter Tryd.func73, Tryd.ntmps73
    go_wp2_with (go_at_call 61; refine (size_any _ _ _ _ c0).mono ?_; rintro e w' ⟨rfl, rfl⟩)
    go_ret
    exact ⟨rfl, rfl⟩
  · have h1 : n ≤ i := by omega
    have h2 : 0 ≤ i := by omega
    clear h h0
    go_enter Tryd.func73, Tryd.ntmps73
    go_wp2_with (go_at_call 61; refine (size_any _ _ _ _ c0).mono ?_; rintro e w' ⟨rfl, rfl⟩)
    go_ret
    exact ⟨rfl, rfl⟩

theorem RowAt.c0 {w : World} {b bw bm n m : Nat} {L : Nat → Nat} (h : RowAt w b bw bm n m L) : w.cell? ⟨b, 0, none⟩ = some (.int .i64 n) := by
  rw [cell_of_row _ _ _ _ _ _ h.row]; rfl
theorem RowAt.c1 {w : World} {b bw bm n m : Nat} {L : Nat → Nat} (h : RowAt w b bw bm n m L) : w.cell? ⟨b, 1, none⟩ = some (.slice (some ⟨bw, 0, none⟩) (nw n) (nw n)) := by
  rw [cell_of_row _ _ _ _ _ _ h.row]; rfl
theorem RowAt.c2 {w : World} {b bw bm n m : Nat} {L : Nat → Nat} (h : RowAt w b bw bm n m L) : w.cell? ⟨b, 2, none⟩ = some (.map (some bm)) := by
  rw [cell_of_row _ _ _ _ _ _ h.row]; rfl
theorem RowAt.c3 {w : World} {b bw bm n m : Nat} {L : Nat → Nat} (h : RowAt w b bw bm n m L) : w.cell? ⟨b, 3, none⟩ = some (.int .i64 (tk L n)) := by
  rw [cell_of_row _ _ _ _ _ _ h.row]; rfl
theorem RowAt.cw {w : World} {b bw bm n m : Nat} {L : Nat → Nat} (h : RowAt w b bw bm n m L) {j : Nat} (hj : j < nw n) : w.cell? ⟨bw, j, none⟩ = some (.int .u64 (wordOf L j)) := by
  rw [cell_of_row _ _ _ _ _ _ h.words, wordCells_get L hj]
theorem RowAt.ne {w : World} {b bw bm n m : Nat} {L : Nat → Nat} (h : RowAt w b bw bm n m L) : b ≠ bw ∧ b ≠ bm ∧ bw ≠ bm := by
  obtain ⟨D, ⟨es, clock, hb, _⟩, _⟩ := h.map
  refine ⟨?_, ?_, ?_⟩
  · intro e; have h1 := h.row; rw [e, h.words] at h1; simp at h1
  · intro e; have h1 := h.row; rw [e, hb] at h1; simp at h1
  · intro e; have h1 := h.words; rw [e, hb] at h1; simp at h1

theorem nw_lt {i n : Nat} (h : i < n) : i / 64 < nw n := by unfold nw; omega
theorem nw_int {i n : Nat} (h : i < n) : (i : Int) / 64 < (nw n : Int) := by have := nw_lt h; omega

theorem times_nil (i : Int) (w : World) :
    Calls Tryd.prog 47 #[.pointer none, .int .i64 i] w fun e w' => e = .returned (.int .i64 0) ∧ w = w' := by
  go_enter Tryd.func47, Tryd.ntmps47
  go_wp2_with (go_at_call 73; refine (there_nil _ _).mono ?_; rintro e w' ⟨rfl, rfl⟩)
  go_ret
  exact ⟨rfl, rfl⟩

theorem times_zero (b o : Nat) (i : Int) (w : World) (c0 : w.cell? ⟨b, o, none⟩ = some (.int .i64 0)) :
    Calls Tryd.prog 47 #[.pointer (some ⟨b, o, none⟩), .int .i64 i] w fun e w' => e = .returned (.int .i64 0) ∧ w = w' := by
  go_enter Tryd.func47, Tryd.ntmps47
  go_wp2_with (go_at_call 73; refine (there_zero _ _ _ _ c0).mono ?_; rintro e w' ⟨rfl, rfl⟩)
  go_ret
  exact ⟨rfl, rfl⟩

theorem times_out (b o : Nat) (n i : Int) (w : World) (c0 : w.cell? ⟨b, o, none⟩ = some (.int .i64 n)) (hp : 0 < n) (h : i < 0 ∨ n ≤ i) :
    Calls Tryd.prog 47 #[.pointer (some ⟨b, o, none⟩), .int .i64 i] w fun e w' => e = .returned (.int .i64 0) ∧ w = w' := by
  go_enter Tryd.func47, Tryd.ntmps47
  go_wp2_with (go_at_call 73; refine (there_out _ _ _ _ _ c0 hp h).mono ?_; rintro e w' ⟨rfl, rfl⟩)
  go_ret
  exact ⟨rfl, rfl⟩

theorem wf_i64 (i : Nat) (h : i < 65536) : (Lit.int .i64 i).wf = true := by
  simp [Lit.wf, IntKind.min, IntKind.max, IntKind.bits, IntKind.signed]; omega

set_option maxRecDepth 100000 in
theorem times_in {w : World} {b bw bm n m : Nat} {L : Nat → Nat} (hr : RowAt w b bw bm n m L) (i : Nat) (h1 : i < n) :
    Calls Tryd.prog 47 #[.pointer (some ⟨b, 0, none⟩), .int .i64 i] w fun e w' => e = .returned (.int .i64 (L i)) ∧ w = w' := by
  have hn := hr.hi
  have hkey := keyOf_int_mk Tryd.underlying3 (wf_i64 i (by omega))
  have c0 := hr.c0
  have c1 := hr.c1
  have c2 := hr.c2
  have cw := hr.cw (nw_lt h1)
  have hb := nw_int h1
  obtain ⟨D, hown, hM⟩ := hr.map
  have hLi := Lib.hid (hM i (by omega))
  have hmost := hr.most i
  clear hM
  by_cases h0 : L i = 0
  · have hq := ask_free h0
    have h0' := Lib.hid h0
    clear h0
    go_enter Tryd.func47, Tryd.ntmps47
    go_wp2_with (go_at_call 73; refine (there_ok _ _ _ _ _ c0 (by omega) (by omega)).mono ?_; rintro e w' ⟨rfl, rfl⟩)
    go_ret
    rw [h0'.out]
    exact ⟨rfl, rfl⟩
  · have hq := ask_held (Nat.pos_of_ne_zero h0)
    go_enter Tryd.func47, Tryd.ntmps47
    go_wp2_with (first
      | (go_at_call 73; refine (there_ok _ _ _ _ _ c0 (by omega) (by omega)).mono ?_; rintro e w' ⟨rfl, rfl⟩)
      | (at_lookup; refine wpList_lookup_own_int _ rfl _ _ 130 rfl 3 3 .i64 law3 Tryd.underlying130 Tryd.underlying3 (zero3 _) bm m D rfl hown _ _ rfl hkey ?_; intro c hat hwc))
    go_ret
    have e1 := hLi.out
    rw [hat] at e1
    simp only [DataW.lit.injEq, Lit.int.injEq, true_and] at e1
    subst e1
    exact ⟨ret_int (by unfold wrap64; omega), rfl⟩

end Go.Proofs.YtjhfoddhpmmjoaaDoor
