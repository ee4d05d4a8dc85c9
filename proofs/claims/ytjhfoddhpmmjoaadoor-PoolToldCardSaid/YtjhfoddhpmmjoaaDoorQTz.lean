/-
  Package bits: what each method of a row does, over the program of this seat. 'RowAt w b bw bm n m L': at block b of w lies a row of n places, place i held L i times.
  Package bits: Hold and Drop: what they tell, and what they turn. No condition beyond the row's own bounds.
  math/bits.TrailingZeros64 of a number that is not 0 tells the place of its last digit; the table's cells are a hypothesis on the world.
-/
import Derived.Test.YtjhfoddhpmmjoaaDoorProg
import Derived.Test.YtjhfoddhpmmjoaaDoorQRowB
import Derived.Test.YtjhfoddhpmmjoaaDoorQTzPlain
import Derived.BigQuiet
import Derived.Deep.QuietTactic
namespace Go.Proofs.YtjhfoddhpmmjoaaDoor
set_option maxRecDepth 100000
open Go.RowKit Go.Maps

theorem law3 : Keyed Tryd.prog 3 := int_keyed Tryd.underlying3
theorem zero3 (w : World) : (zeroValue 3).run Tryd.prog w = .ok (.int .i64 0) w := by kernel_rfl

/-- How many words n places take. -/
def nw (n : Nat) : Nat := (n + 63) / 64

/-- How many of the first n places are held. -/
def tk (L : Nat → Nat) : Nat → Nat
  | 0 => 0
  | n + 1 => tk L n + if 0 < L n then 1 else 0

theorem tk_le (L : Nat → Nat) : ∀ n, tk L n ≤ n
  | 0 => Nat.le_refl _
  | n + 1 => by have := tk_le L n; simp only [tk]; split <;> omega

def wordCells (L : Nat → Nat) (n : Nat) : Array Value := ((List.range (nw n)).map fun j => Value.int .u64 (wordOf L j)).toArray

theorem wordCells_get (L : Nat → Nat) {n j : Nat} (h : j < nw n) : (wordCells L n)[j]? = some (.int .u64 (wordOf L j)) := by
  simp [wordCells, h]

/-- What the map of a row tells: beyond the first time. -/
def More (D : DataW Unit) (L : Nat → Nat) : Prop := ∀ i : Nat, i < 65536 → D.atKey (.int .i64 i) (.lit (.int .i64 0)) = .lit (.int .i64 ((L i - 1 : Nat) : Int))

structure RowAt (w : World) (b bw bm n m : Nat) (L : Nat → Nat) : Prop where
  lo : 1 ≤ n
  hi : n ≤ 65536
  off : ∀ i, n ≤ i → L i = 0
  most : ∀ i, L i ≤ 2147483647
  row : w.heap[b]? = some (.cells #[.int .i64 n, .slice (some ⟨bw, 0, none⟩) (nw n) (nw n), .map (some bm), .int .i64 (tk L n)] 132 (0, 0))
  words : w.heap[bw]? = some (.cells (wordCells L n) 61 (0, 0))
  map : ∃ D, w.ownsMap Tryd.prog 3 (plainElem Tryd.prog 3) bm m D ∧ More D L

/-- A row lies on where its blocks are as they were. -/
theorem RowAt.stay {w w' : World} {b bw bm n m : Nat} {L : Nat → Nat} (h : RowAt w b bw bm n m L) {S : Nat → Prop} (u : Upd S w w') (h1 : ¬ S b) (h2 : ¬ S bw) (h3 : ¬ S bm) : RowAt w' b bw bm n m L := by
  obtain ⟨D, hD, hM⟩ := h.map
  exact ⟨h.lo, h.hi, h.off, h.most, u.at h.row h1, u.at h.words h2, D, ownsMap_at hD (u.block bm hD.lt h3), hM⟩

theorem size_nil (w : World) : Calls Tryd.prog 61 #[.pointer none] w fun e w' => e = .returned (.int .i64 0) ∧ w = w' := by
  go_enter Tryd.func61, Tryd.ntmps61
  go_wp2
  go_ret
  exact ⟨rfl, rfl⟩

theorem size_any (b o : Nat) (n : Int) (w : World) (c0 : w.cell? ⟨b, o, none⟩ = some (.int .i64 n)) :
    Calls Tryd.prog 61 #[.pointer (some ⟨b, o, none⟩)] w fun e w' => e = .returned (.int .i64 n) ∧ w = w' := by
  go_enter Tryd.func61, Tryd.ntmps61
  go_wp2
  go_ret
  exact ⟨rfl, rfl⟩

theorem there_nil (i : Int) (w : World) :
    Calls Tryd.prog 73 #[.pointer none, .int .i64 i] w fun e w' => e = .returned (.int .i64 6) ∧ w = w' := by
  go_enter Tryd.func73, Tryd.ntmps73
  go_wp2_with (go_at_call 61; refine (size_nil _).mono ?_; rintro e w' ⟨rfl, rfl⟩)
  go_ret
  exact ⟨rfl, rfl⟩

theorem there_zero (b o : Nat) (i : Int) (w : World) (c0 : w.cell? ⟨b, o, none⟩ = some (.int .i64 0)) :
    Calls Tryd.prog 73 #[.pointer (some ⟨b, o, none⟩), .int .i64 i] w fun e w' => e = .returned (.int .i64 6) ∧ w = w' := by
  go_enter Tryd.func73, Tryd.ntmps73
  go_wp2_with (go_at_call 61; refine (size_any _ _ _ _ c0).mono ?_; rintro e w' ⟨rfl, rfl⟩)
  go_ret
  exact ⟨rfl, rfl⟩

theorem there_ok (b o : Nat) (n i : Int) (w : World) (c0 : w.cell? ⟨b, o, none⟩ = some (.int .i64 n)) (h0 : 0 ≤ i) (h1 : i < n) :
    Calls Tryd.prog 73 #[.pointer (some ⟨b, o, none⟩), .int .i64 i] w fun e w' => e = .returned (.int .i64 0) ∧ w = w' := by
  have hn : (n == 0) = false := by simp; omega
  go_enter Tryd.func73, Tryd.ntmps73
  go_wp2_with (go_at_call 61; refine (size_any _ _ _ _ c0).mono ?_; rintro e w' ⟨rfl, rfl⟩)
  go_ret
  exact ⟨rfl, rfl⟩

theorem there_out (b o : Nat) (n i : Int) (w : World) (c0 : w.cell? ⟨b, o, none⟩ = some (.int .i64 n)) (hp : 0 < n) (h : i < 0 ∨ n ≤ i) :
    Calls Tryd.prog 73 #[.pointer (some ⟨b, o, none⟩), .int .i64 i] w fun e w' => e = .returned (.int .i64 1) ∧ w = w' := by
  have hn : (n == 0) = false := by simp; omega
  by_cases h0 : i < 0
  · clear h
    go_enter Tryd.func73, Tryd.ntmps73
    go_wp2_with (go_at_call 61; refine (size_any _ _ _ _ c0).mono ?_; rintro e w' ⟨rfl, rfl⟩)
    go_ret
    exact ⟨rfl, rfl⟩
  · have h1 : n ≤ i := by omega
    have h2 : 0 ≤ i := by omega
    clear h h0
    go_enter Tryd.func73, Tryd.ntmps73
    go_wp2_with (go_at_call 61; refine (size_any _ _ _ _ c0).mono ?_; rintro e w' ⟨rfl, rfl⟩)
    go_ret
    exact ⟨rfl, rfl⟩

theorem RowAt.c0 {w : World} {b bw bm n m : Nat} {L : Nat → Nat} (h : RowAt w b bw bm n m L) : w.cell? ⟨b, 0, none⟩ = some (.int .i64 n) := by
  rw [cell_of_row _ _ _ _ _ _ h.row]; rfl
theorem RowAt.c1 {w : World} {b bw bm n m : Nat} {L : Nat → Nat} (h : RowAt w b bw bm n m L) : w.cell? ⟨b, 1, none⟩ = some (.slice (some ⟨bw, 0, none⟩) (nw n) (nw n)) := by
  rw [cell_of_row _ _ _ _ _ _ h.row]; rfl
theorem RowAt.c2 {w : World} {b bw bm n m : Nat} {L : Nat → Nat} (h : RowAt w b bw bm n m L) : w.cell? ⟨b, 2, none⟩ = some (.map (some bm)) := by
  rw [cell_of_row _ _ _ _ _ _ h.row]; rfl
theorem RowAt.c3 {w : World} {b bw bm n m : Nat} {L : Nat → Nat} (h : RowAt w b bw bm n m L) : w.cell? ⟨b, 3, none⟩ = some (.int .i64 (tk L n)) := by
  rw [cell_of_row _ _ _ _ _ _ h.row]; rfl
theorem RowAt.cw {w : World} {b bw bm n m : Nat} {L : Nat → Nat} (h : RowAt w b bw bm n m L) {j : Nat} (hj : j < nw n) : w.cell? ⟨bw, j, none⟩ = some (.int .u64 (wordOf L j)) := by
  rw [cell_of_row _ _ _ _ _ _ h.words, wordCells_get L hj]
theorem RowAt.ne {w : World} {b bw bm n m : Nat} {L : Nat → Nat} (h : RowAt w b bw bm n m L) : b ≠ bw ∧ b ≠ bm ∧ bw ≠ bm := by
  obtain ⟨D, ⟨es, clock, hb, _⟩, _⟩ := h.map
  refine ⟨?_, ?_, ?_⟩
  · intro e; have h1 := h.row; rw [e, h.words] at h1; simp at h1
  · intro e; have h1 := h.row; rw [e, hb] at h1; simp at h1
  · intro e; have h1 := h.words; rw [e, hb] at h1; simp at h1

theorem nw_lt {i n : Nat} (h : i < n) : i / 64 < nw n := by unfold nw; omega
theorem nw_int {i n : Nat} (h : i < n) : (i : Int) / 64 < (nw n : Int) := by have := nw_lt h; omega

theorem times_nil (i : Int) (w : World) :
    Calls Tryd.prog 47 #[.pointer none, .int .i64 i] w fun e w' => e = .returned (.int .i64 0) ∧ w = w' := by
  go_enter Tryd.func47, Tryd.ntmps47
  go_wp2_with (go_at_call 73; refine (there_nil _ _).mono ?_; rintro e w' ⟨rfl, rfl⟩)
  go_ret
  exact ⟨rfl, rfl⟩

theorem times_zero (b o : Nat) (i : Int) (w : World) (c0 : w.cell? ⟨b, o, none⟩ = some (.int .i64 0)) :
    Calls Tryd.prog 47 #[.pointer (some ⟨b, o, none⟩), .int .i64 i] w fun e w' => e = .returned (.int .i64 0) ∧ w = w' := by
  go_enter Tryd.func47, Tryd.ntmps47
  go_wp2_with (go_at_call 73; refine (there_zero _ _ _ _ c0).mono ?_; rintro e w' ⟨rfl, rfl⟩)
  go_ret
  exact ⟨rfl, rfl⟩

theorem times_out (b o : Nat) (n i : Int) (w : World) (c0 : w.cell? ⟨b, o, none⟩ = some (.int .i64 n)) (hp : 0 < n) (h : i < 0 ∨ n ≤ i) :
    Calls Tryd.prog 47 #[.pointer (some ⟨b, o, none⟩), .int .i64 i] w fun e w' => e = .returned (.int .i64 0) ∧ w = w' := by
  go_enter Tryd.func47, Tryd.ntmps47
  go_wp2_with (go_at_call 73; refine (there_out _ _ _ _ _ c0 hp h).mono ?_; rintro e w' ⟨rfl, rfl⟩)
  go_ret
  exact ⟨rfl, rfl⟩

theorem wf_i64 (i : Nat) (h : i < 65536) : (Lit.int .i64 i).wf = true := by
  simp [Lit.wf, IntKind.min, IntKind.max, IntKind.bits, IntKind.signed]; omega

set_option maxRecDepth 100000 in
theorem times_in {w : World} {b bw bm n m : Nat} {L : Nat → Nat} (hr : RowAt w b bw bm n m L) (i : Nat) (h1 : i < n) :
    Calls Tryd.prog 47 #[.pointer (some ⟨b, 0, none⟩), .int .i64 i] w fun e w' => e = .returned (.int .i64 (L i)) ∧ w = w' := by
  have hn := hr.hi
  have hkey := keyOf_int_mk Tryd.underlying3 (wf_i64 i (by omega))
  have c0 := hr.c0
  have c1 := hr.c1
  have c2 := hr.c2
  have cw := hr.cw (nw_lt h1)
  have hb := nw_int h1
  obtain ⟨D, hown, hM⟩ := hr.map
  have hLi := Lib.hid (hM i (by omega))
  have hmost := hr.most i
  clear hM
  by_cases h0 : L i = 0
  · have hq := ask_free h0
    have h0' := Lib.hid h0
    clear h0
    go_enter Tryd.func47, Tryd.ntmps47
    go_wp2_with (go_at_call 73; refine (there_ok _ _ _ _ _ c0 (by omega) (by omega)).mono ?_; rintro e w' ⟨rfl, rfl⟩)
    go_ret
    rw [h0'.out]
    exact ⟨rfl, rfl⟩
  · have hq := ask_held (Nat.pos_of_ne_zero h0)
    go_enter Tryd.func47, Tryd.ntmps47
    go_wp2_with (first
      | (go_at_call 73; refine (there_ok _ _ _ _ _ c0 (by omega) (by omega)).mono ?_; rintro e w' ⟨rfl, rfl⟩)
      | (at_lookup; refine wpList_lookup_own_int _ rfl _ _ 130 rfl 3 3 .i64 law3 Tryd.underlying130 Tryd.underlying3 (zero3 _) bm m D rfl hown _ _ rfl hkey ?_; intro c hat hwc))
    go_ret
    have e1 := hLi.out
    rw [hat] at e1
    simp only [DataW.lit.injEq, Lit.int.injEq, true_and] at e1
    subst e1
    exact ⟨ret_int (by unfold wrap64; omega), rfl⟩

end Go.Proofs.YtjhfoddhpmmjoaaDoor
namespace Go.Proofs.YtjhfoddhpmmjoaaDoor
set_option maxRecDepth 100000
open Go.RowKit Go.Maps

theorem wordCells_up (L : Nat → Nat) {n i v : Nat} (h : i < n) : (wordCells L n).setIfInBounds (i / 64) (.int .u64 (wordOf (up L i v) (i / 64))) = wordCells (up L i v) n := by
  have hj := nw_lt h
  apply Array.ext
  · simp [wordCells]
  · intro k h1 h2
    have hk : k < nw n := by simpa [wordCells] using h2
    rw [Array.getElem_setIfInBounds]
    · by_cases e : i / 64 = k
      · subst e; simp [wordCells]
      · simp [wordCells, e, wordOf_up_other L v (fun h => e h.symm)]
    · simpa [wordCells] using hk

theorem wordCells_like (L : Nat → Nat) {n i v : Nat} (h : 0 < v ↔ 0 < L i) : wordCells (up L i v) n = wordCells L n := by
  unfold wordCells
  congr 1
  exact List.map_congr_left fun j _ => by rw [wordOf_up_like L j h]

theorem tk_off (L : Nat → Nat) {i : Nat} (v : Nat) : ∀ n, n ≤ i → tk (up L i v) n = tk L n
  | 0, _ => rfl
  | n + 1, h => by simp only [tk]; rw [tk_off (i := i) L v n (by omega), up_other (i := i) (k := n) L v (by omega)]

theorem tk_up (L : Nat → Nat) {i v : Nat} : ∀ n, i < n → tk (up L i v) n + (if 0 < L i then 1 else 0) = tk L n + (if 0 < v then 1 else 0)
  | 0, h => by omega
  | n + 1, h => by
    simp only [tk]
    by_cases e : i = n
    · subst e; rw [tk_off (i := i) L v i (Nat.le_refl _), up_same]; omega
    · have := tk_up (i := i) (v := v) L n (by omega); rw [up_other _ _ (fun h => e h.symm)]; omega

theorem tk_like (L : Nat → Nat) {i v : Nat} (n : Nat) (hi : i < n) (h : 0 < v ↔ 0 < L i) : tk (up L i v) n = tk L n := by
  have := tk_up (v := v) L n hi
  by_cases h0 : 0 < L i
  · rw [if_pos h0, if_pos (h.2 h0)] at this; omega
  · rw [if_neg h0, if_neg (fun hv => h0 (h.1 hv))] at this; omega

theorem More.like {D : DataW Unit} {L : Nat → Nat} (h : More D L) {i v : Nat} (e : v - 1 = L i - 1) : More D (up L i v) := fun k hk => by
  rw [h k hk]
  by_cases hki : k = i
  · subst hki; rw [up_same, e]
  · rw [up_other _ _ hki]

theorem key_ne {i k : Nat} (h : k ≠ i) : Lit.int .i64 (k : Int) ≠ Lit.int .i64 (i : Int) := by
  intro e; simp only [Lit.int.injEq, true_and] at e; exact h (by omega)

theorem More.put {D : DataW Unit} {L : Nat → Nat} (h : More D L) (hD : IsMap D) {i v : Nat} : More (D.put (.int .i64 i) (.lit (.int .i64 ((v - 1 : Nat) : Int)))) (up L i v) := fun k hk => by
  by_cases hki : k = i
  · subst hki; rw [up_same, atKey_put_same hD (by trivial)]
  · rw [up_other _ _ hki, atKey_put_other (key_ne hki), h k hk]

theorem More.del {D : DataW Unit} {L : Nat → Nat} (h : More D L) {i v : Nat} (hv : v ≤ 1) : More (D.del (.int .i64 i)) (up L i v) := fun k hk => by
  by_cases hki : k = i
  · subst hki; rw [up_same, atKey_del_same]; have : v - 1 = 0 := by omega
    rw [this]; rfl
  · rw [up_other _ _ hki, atKey_del_other (key_ne hki), h k hk]

theorem isMap_of {w : World} {bm m : Nat} {D : DataW Unit} (h : w.ownsMap Tryd.prog 3 (plainElem Tryd.prog 3) bm m D) : IsMap D := by
  obtain ⟨es, clock, _, _, _, rfl⟩ := h
  exact ⟨_, rfl⟩

/-- A place is held for the first time, or let go: a word, and the count, are turned. -/
theorem RowAt.word {w : World} {b bw bm n m : Nat} {L : Nat → Nat} (h : RowAt w b bw bm n m L) {i v : Nat} (hi : i < n) (hv : v ≤ 1) (hL : L i ≤ 1) :
    RowAt ((w.setCell ⟨bw, i / 64, none⟩ (.int .u64 (wordOf (up L i v) (i / 64)))).setCell ⟨b, 3, none⟩ (.int .i64 (tk (up L i v) n))) b bw bm n m (up L i v) := by
  have hne := h.ne
  obtain ⟨D, hD, hM⟩ := h.map
  refine ⟨h.lo, h.hi, fun k hk => ?_, fun k => ?_, ?_, ?_, D, ?_, hM.like (by omega)⟩
  · rw [up_other _ _ (by omega)]; exact h.off k hk
  · by_cases e : k = i
    · subst e; rw [up_same]; omega
    · rw [up_other _ _ e]; exact h.most k
  · have h1 : (w.setCell ⟨bw, i / 64, none⟩ (.int .u64 (wordOf (up L i v) (i / 64)))).heap[b]? = w.heap[b]? := heap_setCell_other _ _ _ _ hne.1
    rw [heap_setCell_same _ _ _ _ _ _ (h1.trans h.row)]
    rfl
  · rw [heap_setCell_other _ _ _ _ hne.1.symm, heap_setCell_same _ _ _ _ _ _ h.words, wordCells_up L hi]
  · refine ownsMap_at hD ?_
    rw [heap_setCell_other _ _ _ _ hne.2.1.symm, heap_setCell_other _ _ _ _ hne.2.2.symm]

/-- The map alone is turned. -/
theorem RowAt.turn {w w' : World} {b bw bm n m m' : Nat} {L : Nat → Nat} (h : RowAt w b bw bm n m L) {i v : Nat} {D : DataW Unit} (hi : i < n) (hv : v ≤ 2147483647) (hp : 0 < v ↔ 0 < L i)
    (ht : w.mapTurned w' bm) (hD : w'.ownsMap Tryd.prog 3 (plainElem Tryd.prog 3) bm m' D) (hM : More D (up L i v)) : RowAt w' b bw bm n m' (up L i v) := by
  have hne := h.ne
  have u : Upd (fun k => k = bm) w w' := (Upd.refl _ _).turned ht (fun _ => rfl)
  refine ⟨h.lo, h.hi, fun k hk => ?_, fun k => ?_, ?_, ?_, D, hD, hM⟩
  · rw [up_other _ _ (by omega)]; exact h.off k hk
  · by_cases e : k = i
    · subst e; rw [up_same]; omega
    · rw [up_other _ _ e]; exact h.most k
  · rw [u.at h.row hne.2.1, tk_like L n hi hp]
  · rw [u.at h.words hne.2.2, wordCells_like L hp]

/-- The three blocks of a row. -/
def Three (b bw bm : Nat) : Nat → Prop := fun k => k = b ∨ k = bw ∨ k = bm

theorem RowAt.drew {w : World} {b bw bm n m : Nat} {L : Nat → Nat} (h : RowAt w b bw bm n m L) : RowAt w.drew b bw bm n m L := ⟨h.lo, h.hi, h.off, h.most, h.row, h.words, h.map⟩

theorem upd_word {w : World} {b bw bm : Nat} (o o' : Nat) (x y : Value) : Upd (Three b bw bm) w ((w.setCell ⟨bw, o, none⟩ x).setCell ⟨b, o', none⟩ y).drew :=
  (((Upd.refl _ _).setCell _ _ (fun _ => .inr (.inl rfl))).setCell _ _ (fun _ => .inl rfl)).drew

theorem upd_turn {w w' : World} {b bw bm : Nat} (ht : w.mapTurned w' bm) : Upd (Three b bw bm) w w' := (Upd.refl _ _).turned ht (fun _ => .inr (.inr rfl))

theorem hold_nil (i : Int) (w : World) : Calls Tryd.prog 51 #[.pointer none, .int .i64 i] w fun e w' => e = .returned (.int .i64 6) ∧ w = w' := by
  go_enter Tryd.func51, Tryd.ntmps51
  go_wp2_with (go_at_call 73; refine (there_nil _ _).mono ?_; rintro e w' ⟨rfl, rfl⟩)
  go_ret
  exact ⟨rfl, rfl⟩
theorem hold_zero (b o : Nat) (i : Int) (w : World) (c0 : w.cell? ⟨b, o, none⟩ = some (.int .i64 0)) :
    Calls Tryd.prog 51 #[.pointer (some ⟨b, o, none⟩), .int .i64 i] w fun e w' => e = .returned (.int .i64 6) ∧ w = w' := by
  go_enter Tryd.func51, Tryd.ntmps51
  go_wp2_with (go_at_call 73; refine (there_zero _ _ _ _ c0).mono ?_; rintro e w' ⟨rfl, rfl⟩)
  go_ret
  exact ⟨rfl, rfl⟩
theorem hold_out (b o : Nat) (n i : Int) (w : World) (c0 : w.cell? ⟨b, o, none⟩ = some (.int .i64 n)) (hp : 0 < n) (h : i < 0 ∨ n ≤ i) :
    Calls Tryd.prog 51 #[.pointer (some ⟨b, o, none⟩), .int .i64 i] w fun e w' => e = .returned (.int .i64 1) ∧ w = w' := by
  go_enter Tryd.func51, Tryd.ntmps51
  go_wp2_with (go_at_call 73; refine (there_out _ _ _ _ _ c0 hp h).mono ?_; rintro e w' ⟨rfl, rfl⟩)
  go_ret
  exact ⟨rfl, rfl⟩

set_option maxRecDepth 100000 in
theorem hold_most {w : World} {b bw bm n m : Nat} {L : Nat → Nat} (hr : RowAt w b bw bm n m L) (i : Nat) (h1 : i < n) (h0 : L i = 2147483647) :
    Calls Tryd.prog 51 #[.pointer (some ⟨b, 0, none⟩), .int .i64 i] w fun e w' => e = .returned (.int .i64 5) ∧ w = w' := by
  have c0 := hr.c0
  have ht := times_in hr i h1
  rw [h0] at ht
  replace ht := Lib.hid ht
  clear h0
  go_enter Tryd.func51, Tryd.ntmps51
  go_wp2_with (first
    | (go_at_call 73; refine (there_ok _ _ _ _ _ c0 (by omega) (by omega)).mono ?_; rintro e w' ⟨rfl, rfl⟩)
    | (go_at_call 47; refine ht.out.mono ?_; rintro e w' ⟨rfl, rfl⟩))
  go_ret
  exact ⟨rfl, rfl⟩

set_option maxRecDepth 100000 in
theorem hold_first {w : World} {b bw bm n m : Nat} {L : Nat → Nat} (hr : RowAt w b bw bm n m L) (i : Nat) (h1 : i < n) (h0 : L i = 0) :
    Calls Tryd.prog 51 #[.pointer (some ⟨b, 0, none⟩), .int .i64 i] w fun e w' => e = .returned (.int .i64 0) ∧ RowAt w' b bw bm n m (up L i 1) ∧ Upd (Three b bw bm) w w' := by
  have hn := hr.hi
  have c0 := hr.c0
  have c1 := hr.c1
  have c3 := hr.c3
  have cw := hr.cw (nw_lt h1)
  have hb := nw_int h1
  have hne := hr.ne.1
  have hne' := hne.symm
  have f1 : w.frozen? ⟨bw, i / 64, none⟩ = false := frozen_of_row _ _ _ _ _ hr.words
  have f2 : w.frozen? ⟨b, 3, none⟩ = false := frozen_of_row _ _ _ _ _ hr.row
  have htk := tk_le L n
  have hnew := hr.word (v := 1) h1 (Nat.le_refl _) (by omega)
  have ek : tk (up L i 1) n = tk L n + 1 := by have := tk_up (v := 1) L n h1; simp [h0] at this; exact this
  have ht := times_in hr i h1
  rw [h0] at ht
  replace ht := Lib.hid ht
  clear h0
  have hd := Lib.hid (set_digit (L := L) (i := i) (v := 1) (by decide))
  replace hnew := Lib.hid hnew
  replace ek := Lib.hid ek
  go_enter Tryd.func51, Tryd.ntmps51
  go_wp2_with (first
    | (go_at_call 73; refine (there_ok _ _ _ _ _ c0 (by omega) (by omega)).mono ?_; rintro e w' ⟨rfl, rfl⟩)
    | (go_at_call 47; refine ht.out.mono ?_; rintro e w' ⟨rfl, rfl⟩))
  go_region
  go_wp2
  go_ret
  refine ⟨rfl, ?_, upd_word _ _ _ _⟩
  have hnew := hnew.out
  rw [ek.out] at hnew
  rw [hd.out]
  exact hnew.drew

set_option maxRecDepth 100000 in
theorem hold_again {w : World} {b bw bm n m : Nat} {L : Nat → Nat} (hr : RowAt w b bw bm n m L) (i : Nat) (h1 : i < n) (h0 : 0 < L i) (h2 : L i < 2147483647) (hm : m < 1000000000000) :
    Calls Tryd.prog 51 #[.pointer (some ⟨b, 0, none⟩), .int .i64 i] w fun e w' => e = .returned (.int .i64 0) ∧ RowAt w' b bw bm n (m + 1) (up L i (L i + 1)) ∧ Upd (Three b bw bm) w w' := by
  have hn := hr.hi
  have c0 := hr.c0
  have c2 := hr.c2
  have hkey := keyOf_int_mk Tryd.underlying3 (wf_i64 i (by omega))
  obtain ⟨D, hown, hM⟩ := hr.map
  have hLi := Lib.hid (hM i (by omega))
  replace hM := Lib.hid hM
  have ht := Lib.hid (times_in hr i h1)
  have q1 : ((L i : Int) == 2147483647) = false := by simp; omega
  have q2 : ((L i : Int) == 0) = false := by simp; omega
  have hwf : (Lit.int .i64 ((L i : Nat) : Int)).wf = true := by simp [Lit.wf, IntKind.min, IntKind.max, IntKind.bits, IntKind.signed]; omega
  have hm' : m < maxLen := by unfold maxLen; omega
  go_enter Tryd.func51, Tryd.ntmps51
  go_wp2_with (first
    | (go_at_call 73; refine (there_ok _ _ _ _ _ c0 (by omega) (by omega)).mono ?_; rintro e w' ⟨rfl, rfl⟩)
    | (go_at_call 47; refine ht.out.mono ?_; rintro e w' ⟨rfl, rfl⟩)
    | (at_lookup; refine wpList_lookup_own_int _ rfl _ _ 130 rfl 3 3 .i64 law3 Tryd.underlying130 Tryd.underlying3 (zero3 _) bm m D rfl hown _ _ rfl hkey ?_; intro c hat hwc; (have e1 := hLi.out); rw [hat] at e1; simp only [DataW.lit.injEq, Lit.int.injEq, true_and] at e1; (obtain ⟨c', hc'⟩ : ∃ c' : Nat, c' = L i - 1 := ⟨_, rfl⟩); rw [← hc'] at e1; subst e1; (have hc2 : c' < 2147483647 := by omega); (have hc1 := Lib.hid hc'); clear hc')
    | (at_mapUpdate; refine wpList_mapUpdate_in _ rfl _ _ _ 130 rfl 3 3 law3 Tryd.underlying130 _ bm m D rfl hown hm' _ _ _ rfl rfl hkey (.lit (.int .i64 ((L i : Nat) : Int))) [] (by (have e := hc1.out); rw [show ((c' : Int) + 1) = ((L i : Nat) : Int) by omega]; exact plainElem_int Tryd.underlying3 hwf) ?_; intro w1 hown1 hturn1))
  go_ret
  exact ⟨rfl, hr.turn h1 (by omega) ⟨fun _ => h0, fun _ => by omega⟩ hturn1 hown1 ((hM.out.put (isMap_of hown) (i := i) (v := L i + 1))), upd_turn hturn1⟩

/-! ### Drop -/
theorem drop_nil (i : Int) (w : World) : Calls Tryd.prog 45 #[.pointer none, .int .i64 i] w fun e w' => e = .returned (.tuple #[.bool false, .int .i64 6]) ∧ w = w' := by
  go_enter Tryd.func45, Tryd.ntmps45
  go_wp2_with (go_at_call 73; refine (there_nil _ _).mono ?_; rintro e w' ⟨rfl, rfl⟩)
  go_ret2
  exact ⟨rfl, rfl⟩
theorem drop_zero (b o : Nat) (i : Int) (w : World) (c0 : w.cell? ⟨b, o, none⟩ = some (.int .i64 0)) :
    Calls Tryd.prog 45 #[.pointer (some ⟨b, o, none⟩), .int .i64 i] w fun e w' => e = .returned (.tuple #[.bool false, .int .i64 6]) ∧ w = w' := by
  go_enter Tryd.func45, Tryd.ntmps45
  go_wp2_with (go_at_call 73; refine (there_zero _ _ _ _ c0).mono ?_; rintro e w' ⟨rfl, rfl⟩)
  go_ret2
  exact ⟨rfl, rfl⟩
theorem drop_out (b o : Nat) (n i : Int) (w : World) (c0 : w.cell? ⟨b, o, none⟩ = some (.int .i64 n)) (hp : 0 < n) (h : i < 0 ∨ n ≤ i) :
    Calls Tryd.prog 45 #[.pointer (some ⟨b, o, none⟩), .int .i64 i] w fun e w' => e = .returned (.tuple #[.bool false, .int .i64 1]) ∧ w = w' := by
  go_enter Tryd.func45, Tryd.ntmps45
  go_wp2_with (go_at_call 73; refine (there_out _ _ _ _ _ c0 hp h).mono ?_; rintro e w' ⟨rfl, rfl⟩)
  go_ret2
  exact ⟨rfl, rfl⟩

set_option maxRecDepth 100000 in
theorem drop_free {w : World} {b bw bm n m : Nat} {L : Nat → Nat} (hr : RowAt w b bw bm n m L) (i : Nat) (h1 : i < n) (h0 : L i = 0) :
    Calls Tryd.prog 45 #[.pointer (some ⟨b, 0, none⟩), .int .i64 i] w fun e w' => e = .returned (.tuple #[.bool false, .int .i64 7]) ∧ w = w' := by
  have c0 := hr.c0
  have ht := times_in hr i h1
  rw [h0] at ht
  replace ht := Lib.hid ht
  clear h0
  go_enter Tryd.func45, Tryd.ntmps45
  go_wp2_with (first
    | (go_at_call 73; refine (there_ok _ _ _ _ _ c0 (by omega) (by omega)).mono ?_; rintro e w' ⟨rfl, rfl⟩)
    | (go_at_call 47; refine ht.out.mono ?_; rintro e w' ⟨rfl, rfl⟩))
  go_ret2
  exact ⟨rfl, rfl⟩

set_option maxRecDepth 100000 in
theorem drop_last {w : World} {b bw bm n m : Nat} {L : Nat → Nat} (hr : RowAt w b bw bm n m L) (i : Nat) (h1 : i < n) (h0 : L i = 1) :
    Calls Tryd.prog 45 #[.pointer (some ⟨b, 0, none⟩), .int .i64 i] w fun e w' => e = .returned (.tuple #[.bool true, .int .i64 0]) ∧ RowAt w' b bw bm n m (up L i 0) ∧ Upd (Three b bw bm) w w' := by
  have hn := hr.hi
  have c0 := hr.c0
  have c1 := hr.c1
  have c3 := hr.c3
  have cw := hr.cw (nw_lt h1)
  have hb := nw_int h1
  have hne := hr.ne.1
  have hne' := hne.symm
  have f1 : w.frozen? ⟨bw, i / 64, none⟩ = false := frozen_of_row _ _ _ _ _ hr.words
  have f2 : w.frozen? ⟨b, 3, none⟩ = false := frozen_of_row _ _ _ _ _ hr.row
  have htk := tk_le L n
  have hnew := hr.word (v := 0) h1 (by decide) (by omega)
  have ek : tk (up L i 0) n + 1 = tk L n := by have := tk_up (v := 0) L n h1; simp [h0] at this; exact this
  have htk1 : 1 ≤ tk L n := by omega
  have ht := times_in hr i h1
  rw [h0] at ht
  replace ht := Lib.hid ht
  clear h0
  have hd := Lib.hid (strike_digit (L := L) (i := i))
  replace hnew := Lib.hid hnew
  have ek : ((tk (up L i 0) n : Nat) : Int) = (tk L n : Int) - 1 := by omega
  replace ek := Lib.hid ek
  go_enter Tryd.func45, Tryd.ntmps45
  go_wp2_with (first
    | (go_at_call 73; refine (there_ok _ _ _ _ _ c0 (by omega) (by omega)).mono ?_; rintro e w' ⟨rfl, rfl⟩)
    | (go_at_call 47; refine ht.out.mono ?_; rintro e w' ⟨rfl, rfl⟩))
  go_region
  go_wp2
  go_ret2
  refine ⟨rfl, ?_, upd_word _ _ _ _⟩
  have hnew := hnew.out
  rw [ek.out] at hnew
  rw [hd.out]
  exact hnew.drew

set_option maxRecDepth 100000 in
theorem drop_two {w : World} {b bw bm n m : Nat} {L : Nat → Nat} (hr : RowAt w b bw bm n m L) (i : Nat) (h1 : i < n) (h0 : L i = 2) :
    Calls Tryd.prog 45 #[.pointer (some ⟨b, 0, none⟩), .int .i64 i] w fun e w' => e = .returned (.tuple #[.bool false, .int .i64 0]) ∧ RowAt w' b bw bm n m (up L i 1) ∧ Upd (Three b bw bm) w w' := by
  have hn := hr.hi
  have c0 := hr.c0
  have c2 := hr.c2
  have hkey := keyOf_int_mk Tryd.underlying3 (wf_i64 i (by omega))
  obtain ⟨D, hown, hM⟩ := hr.map
  replace hM := Lib.hid hM
  have ht := times_in hr i h1
  rw [h0] at ht
  replace ht := Lib.hid ht
  replace h0 := Lib.hid h0
  go_enter Tryd.func45, Tryd.ntmps45
  go_wp2_with (first
    | (go_at_call 73; refine (there_ok _ _ _ _ _ c0 (by omega) (by omega)).mono ?_; rintro e w' ⟨rfl, rfl⟩)
    | (go_at_call 47; refine ht.out.mono ?_; rintro e w' ⟨rfl, rfl⟩)
    | (at_delete; refine wpList_delete_own _ rfl _ _ 130 3 rfl 3 law3 Tryd.underlying130 _ bm m D rfl hown _ _ rfl hkey ?_; intro w1 hown1 hturn1))
  go_ret2
  have h0 := h0.out
  exact ⟨rfl, hr.turn h1 (by omega) ⟨fun _ => by omega, fun _ => by omega⟩ hturn1 hown1 (hM.out.del (by decide)), upd_turn hturn1⟩

set_option maxRecDepth 100000 in
theorem drop_more {w : World} {b bw bm n m : Nat} {L : Nat → Nat} (hr : RowAt w b bw bm n m L) (i : Nat) (h1 : i < n) (h0 : 2 < L i) (hm : m < 1000000000000) :
    Calls Tryd.prog 45 #[.pointer (some ⟨b, 0, none⟩), .int .i64 i] w fun e w' => e = .returned (.tuple #[.bool false, .int .i64 0]) ∧ RowAt w' b bw bm n (m + 1) (up L i (L i - 1)) ∧ Upd (Three b bw bm) w w' := by
  have hn := hr.hi
  have c0 := hr.c0
  have c2 := hr.c2
  have hmost := hr.most i
  have hkey := keyOf_int_mk Tryd.underlying3 (wf_i64 i (by omega))
  obtain ⟨D, hown, hM⟩ := hr.map
  have hLi := Lib.hid (hM i (by omega))
  replace hM := Lib.hid hM
  have ht := Lib.hid (times_in hr i h1)
  have q1 : ((L i : Int) == 0) = false := by simp; omega
  have q2 : ((L i : Int) == 1) = false := by simp; omega
  have q3 : ((L i : Int) == 2) = false := by simp; omega
  have hwf : (Lit.int .i64 ((L i - 1 - 1 : Nat) : Int)).wf = true := by simp [Lit.wf, IntKind.min, IntKind.max, IntKind.bits, IntKind.signed]; omega
  have hm' : m < maxLen := by unfold maxLen; omega
  go_enter Tryd.func45, Tryd.ntmps45
  go_wp2_with (first
    | (go_at_call 73; refine (there_ok _ _ _ _ _ c0 (by omega) (by omega)).mono ?_; rintro e w' ⟨rfl, rfl⟩)
    | (go_at_call 47; refine ht.out.mono ?_; rintro e w' ⟨rfl, rfl⟩)
    | (at_lookup; refine wpList_lookup_own_int _ rfl _ _ 130 rfl 3 3 .i64 law3 Tryd.underlying130 Tryd.underlying3 (zero3 _) bm m D rfl hown _ _ rfl hkey ?_; intro c hat hwc; (have e1 := hLi.out); rw [hat] at e1; simp only [DataW.lit.injEq, Lit.int.injEq, true_and] at e1; (obtain ⟨c', hc'⟩ : ∃ c' : Nat, c' = L i - 1 := ⟨_, rfl⟩); rw [← hc'] at e1; subst e1; (have hc2 : 2 ≤ c' ∧ c' < 2147483647 := by omega); (have hc1 := Lib.hid hc'); clear hc')
    | (at_mapUpdate; refine wpList_mapUpdate_in _ rfl _ _ _ 130 rfl 3 3 law3 Tryd.underlying130 _ bm m D rfl hown hm' _ _ _ rfl rfl hkey (.lit (.int .i64 ((L i - 1 - 1 : Nat) : Int))) [] (by (have e := hc1.out); rw [show ((c' : Int) - 1) = ((L i - 1 - 1 : Nat) : Int) by omega]; exact plainElem_int Tryd.underlying3 hwf) ?_; intro w1 hown1 hturn1))
  go_ret2
  exact ⟨rfl, hr.turn h1 (by omega) ⟨fun _ => by omega, fun _ => by omega⟩ hturn1 hown1 ((hM.out.put (isMap_of hown) (i := i) (v := L i - 1))), upd_turn hturn1⟩

end Go.Proofs.YtjhfoddhpmmjoaaDoor
namespace Go.Proofs.YtjhfoddhpmmjoaaDoor
set_option maxRecDepth 100000
open Go.RowKit Go.Maps

/-- The library's table stands in w. -/
def TabAt (w : World) : Prop := ∀ i v : Nat, tzTab[i]? = some v → w.cell? ⟨0, i, none⟩ = some (.int .u8 v)

set_option maxRecDepth 100000 in
theorem tz_core (x k idx : Nat) (w : World) (hx0 : ((x : Int) == 0) = false)
    (key : IntKind.u64.wrap (bits .and .u64 (x : Int) (IntKind.u64.wrap (-(x : Int))) * 285870213051353865) / 288230376151711744 = (idx : Int))
    (hi : idx < 64) (hk : k < 64) (hcell : w.cell? ⟨0, idx, none⟩ = some (.int .u8 k)) :
    Calls Tryd.prog 74 #[.int .u64 x] w fun e w' => e = .returned (.int .i64 k) ∧ w = w' := by
  go_enter Tryd.func74, Tryd.ntmps74
  go_wp2_with (simp only [key])
  go_ret
  exact ⟨rfl, rfl⟩

theorem tz_any (x k : Nat) (w : World) (hT : TabAt w) (h : LastDigit x k) (h1 : x < 18446744073709551616) :
    Calls Tryd.prog 74 #[.int .u64 x] w fun e w' => e = .returned (.int .i64 k) ∧ w = w' := by
  have h0 : ((x : Int) == 0) = false := by
    have := Nat.ge_two_pow_of_testBit h.2.1
    have hpos : 0 < 2 ^ k := Nat.pow_pos (by omega)
    simp; omega
  obtain ⟨hi, ht⟩ := tz_table k h.1
  exact tz_core x k _ w h0 (tz_place h h1) hi h.1 (hT _ _ ht)

/-- What Free says: the first free place, or none. -/
def FreeSays (L : Nat → Nat) (n f : Nat) (w : World) (e : Ending) (w' : World) : Prop :=
  ∃ r : Option Nat, FirstFree L n f r ∧ e = .returned (.tuple #[.int .i64 (r.getD 0 : Nat), .bool r.isSome]) ∧ w = w'

theorem max_zero (f : Int) : (if (0 : Int) > f then (0 : Int) else f) = (f.toNat : Int) := by split <;> omega

theorem free_nil (f : Int) (w : World) : Calls Tryd.prog 50 #[.pointer .none, .int .i64 f] w fun e w' => e = .returned (.tuple #[.int .i64 0, .bool false]) ∧ w = w' := by
  have q := max_zero f
  generalize f.toNat = g at q
  go_enter Tryd.func50, Tryd.ntmps50
  go_wp2_with fail
  go_step3
  go_wp2_with (go_at_call 61; refine (size_nil _).mono ?_; rintro e w' ⟨rfl, rfl⟩)
  rw [Exit.noGoto_ret]
  go_ret2
  exact ⟨rfl, rfl⟩

set_option maxRecDepth 100000 in
theorem free_beyond (b o n : Nat) (f : Int) (w : World) (c0 : w.cell? ⟨b, o, none⟩ = some (.int .i64 n)) (h1 : n ≤ f.toNat) :
    Calls Tryd.prog 50 #[.pointer (some ⟨b, o, none⟩), .int .i64 f] w fun e w' => e = .returned (.tuple #[.int .i64 0, .bool false]) ∧ w = w' := by
  have q := max_zero f
  generalize f.toNat = g at q h1
  go_enter Tryd.func50, Tryd.ntmps50
  go_wp2_with fail
  go_step3
  go_wp2_with (first | (go_at_call 61; refine (size_any _ _ _ _ c0).mono ?_; rintro e w' ⟨rfl, rfl⟩))
  rw [Exit.noGoto_ret]
  go_ret2
  exact ⟨rfl, rfl⟩

theorem ff_found {L : Nat → Nat} {n f k j : Nat} {w : World} {q : Int} (h : FirstFree L n f (if 64 * k + j < n then some (64 * k + j) else .none)) (e : q = ((64 * k + j : Nat) : Int)) (hp : q < n) :
    FreeSays L n f w (.returned (.tuple #[.int .i64 q, .bool true])) w := by
  rw [if_pos (by omega)] at h
  subst e
  exact ⟨_, h, rfl, rfl⟩
theorem ff_beyond {L : Nat → Nat} {n f k j : Nat} {w : World} {q : Int} (h : FirstFree L n f (if 64 * k + j < n then some (64 * k + j) else .none)) (e : q = ((64 * k + j : Nat) : Int)) (hp : q < 0 ∨ n ≤ q) :
    FreeSays L n f w (.returned (.tuple #[.int .i64 0, .bool false])) w := by
  rw [if_neg (by omega)] at h
  exact ⟨_, h, rfl, rfl⟩
theorem ff_none {L : Nat → Nat} {n f : Nat} {w : World} (h : FirstFree L n f .none) : FreeSays L n f w (.returned (.tuple #[.int .i64 0, .bool false])) w := ⟨_, h, rfl, rfl⟩

set_option maxRecDepth 100000 in
set_option maxHeartbeats 800000 in
theorem free_any {w : World} {b bw bm n m : Nat} {L : Nat → Nat} (hr : RowAt w b bw bm n m L) (hT : TabAt w) (fi : Int) (f : Nat) (hfi : f = fi.toNat) (h1 : f < n) :
    Calls Tryd.prog 50 #[.pointer (some ⟨b, 0, none⟩), .int .i64 fi] w (FreeSays L n f w) := by
  have hn := hr.hi
  have c0 := hr.c0
  have c1 := hr.c1
  have cw : ∀ j, j < nw n → w.cell? ⟨bw, j, none⟩ = some (.int .u64 (wordOf L j)) := fun j hj => hr.cw hj
  have hnw : nw n ≤ 1024 := by unfold nw; omega
  have hnw2 : n ≤ 64 * nw n := by unfold nw; omega
  have q := max_zero fi
  rw [← hfi] at q
  clear hfi
  replace cw := Lib.hid cw
  replace hT := Lib.hid hT
  go_enter Tryd.func50, Tryd.ntmps50
  go_wp2_with fail
  go_step3
  go_wp2_with (go_at_call 61; refine (size_any _ _ _ _ c0).mono ?_; rintro e w' ⟨rfl, rfl⟩)
  go_step3
  go_wp2_with fail
  go_loop [6, 7] (fun fo i => ∃ k : Nat, f / 64 ≤ k ∧ k ≤ nw n ∧ Held L f (64 * k) ∧ fo = .int .i64 (-1) ∧ i = .int .i64 k) (fun _ i => nw n - (intOf i).toNat)
  case atStart => exact ⟨f / 64, Nat.le_refl _, Nat.le_of_lt (nw_lt h1), fun i h1 h2 => by omega, rfl, by go_num⟩
  case round =>
    obtain ⟨k, hkf, hk, hheld, rfl, rfl⟩ := hrel
    by_cases hlt : k < nw n
    · have c := cw.out k hlt
      have x1 := xor_word L k
      have x2 := xor_word' L k
      have hb : (k : Int) < (nw n : Int) := by omega
      by_cases hkk : k = f / 64
      · have m1 := mask_word L k (f % 64) (Nat.mod_lt _ (by omega))
        have hs : Start f k (f % 64) := by rw [hkk]; exact start_first f
        subst hkk
        by_cases hz : freeW L (f / 64) (f % 64) = 0
        · have nx := Lib.hid (hheld.next hs hz)
          rw [hz] at m1
          replace hheld := Lib.hid hheld
          replace hs := Lib.hid hs
          clear hz
          go_wp2_with fail
          go_round
          case rel => exact ⟨f / 64 + 1, by omega, by omega, nx.out, rfl, by go_num⟩
          case measure => simp [intOf]; omega
        · obtain ⟨j, hj⟩ := lastDigit_ex (Nat.pos_of_ne_zero hz) (freeW_lt L _ _)
          have tl := Lib.hid (hheld.tell (n := n) hs hj)
          replace hheld := Lib.hid hheld
          replace hs := Lib.hid hs
          have hj1 := hj.1
          have tz := Lib.hid (tz_any _ j w hT.out hj (freeW_lt L _ _))
          replace hj := Lib.hid hj
          have hz1 : ((freeW L (f / 64) (f % 64) : Nat) : Int) ≠ 0 := by omega
          go_wp2_with (go_at_call 74; refine tz.out.mono ?_; rintro e w' ⟨rfl, rfl⟩)
          all_goals
            rw [Exit.noGoto_ret]
            go_ret2
            first | exact ff_found (q := (f : Int) / 64 * 64 + j) tl.out (by omega) (by omega) | exact ff_beyond tl.out (q := (f : Int) / 64 * 64 + j) (by omega) (by omega)
      · have hs : Start f k 0 := start_later (by omega)
        have kk : ((k : Int) == (f : Int) / 64) = false := by simp; omega
        by_cases hz : freeW L k 0 = 0
        · have nx := Lib.hid (hheld.next hs hz)
          rw [hz] at x1 x2
          replace hheld := Lib.hid hheld
          replace hs := Lib.hid hs
          clear hz
          go_wp2_with fail
          go_round
          case rel => exact ⟨k + 1, by omega, by omega, nx.out, rfl, by go_num⟩
          case measure => simp [intOf]; omega
        · obtain ⟨j, hj⟩ := lastDigit_ex (Nat.pos_of_ne_zero hz) (freeW_lt L _ _)
          have tl := Lib.hid (hheld.tell (n := n) hs hj)
          replace hheld := Lib.hid hheld
          replace hs := Lib.hid hs
          have hj1 := hj.1
          have tz := Lib.hid (tz_any _ j w hT.out hj (freeW_lt L _ _))
          replace hj := Lib.hid hj
          have hz1 : ((freeW L k 0 : Nat) : Int) ≠ 0 := by omega
          go_wp2_with (go_at_call 74; refine tz.out.mono ?_; rintro e w' ⟨rfl, rfl⟩)
          all_goals
            rw [Exit.noGoto_ret]
            go_ret2
            first | exact ff_found (q := (k : Int) * 64 + j) tl.out (by omega) (by omega) | exact ff_beyond tl.out (q := (k : Int) * 64 + j) (by omega) (by omega)
    · have e : FirstFree L n f .none := fun i a b => hheld i a (by omega)
      replace e := Lib.hid e
      replace hheld := Lib.hid hheld
      go_wp2_with fail
      go_ret2
      exact ff_none e.out

end Go.Proofs.YtjhfoddhpmmjoaaDoor
