/-
  Package bits: New, Taken, and Hold, Drop, Times, Free for every argument. No condition beyond the row's own bounds.
-/
import Derived.Test.YtjhfoddhpmmjoaaDoorTz
import Derived.Deep.OwnRows
namespace Go.Proofs.YtjhfoddhpmmjoaaDoor
set_option maxRecDepth 100000
open Go.RowKit Go.Maps

theorem info86 : (Tryd.prog.info? 61).map (fun i => (i.zero, i.size, i.bytes)) = some (some (.int .u64 0), 1, 8) := by kernel_rfl

theorem cells_zero (n : Nat) : madeCells #[.int .u64 0] (nw n) = wordCells (fun _ => 0) n := by
  apply Array.ext
  · simp [madeCells, wordCells]
  · intro i h1 h2
    have e : wordOf (fun _ => 0) i = 0 := by
      apply Nat.eq_of_testBit_eq
      intro k
      rw [wordOf_testBit]; simp
    simp [madeCells, wordCells, e, Nat.mod_one]

theorem tk_zero : ∀ n, tk (fun _ => 0) n = 0
  | 0 => rfl
  | n + 1 => by simp [tk, tk_zero n]

theorem bnew_bad (n : Int) (w : World) (h : n < 1 ∨ 65536 < n) :
    Calls Tryd.prog 52 #[.int .i64 n] w fun e w' => e = .returned (.tuple #[.pointer .none, .int .i64 1]) ∧ w = w' := by
  rcases h with h | h
  · go_enter Tryd.func52, Tryd.ntmps52
    go_wp2
    go_ret2
    exact ⟨rfl, rfl⟩
  · have h' : ¬ n < 1 := by omega
    go_enter Tryd.func52, Tryd.ntmps52
    go_wp2
    go_ret2
    exact ⟨rfl, rfl⟩

/-- What New says of a size that serves. -/
def NewSays (n : Nat) (w : World) (e : Ending) (w' : World) : Prop :=
  ∃ b bw bm, w.heap.size ≤ b ∧ w.heap.size ≤ bw ∧ w.heap.size ≤ bm ∧ e = .returned (.tuple #[.pointer (some ⟨b, 0, none⟩), .int .i64 0]) ∧ RowAt w' b bw bm n 0 (fun _ => 0) ∧ Below w.heap.size w w'

theorem new_row (n : Nat) (w : World) (h1 : 1 ≤ n) (h2 : n ≤ 65536) :
    RowAt (((w.alloc (.cells (madeCells #[.int .u64 0] (nw n)) 61)).alloc (.map #[] 0)).alloc (.cells #[.int .i64 n, .slice (some ⟨w.heap.size, 0, none⟩) (nw n) (nw n), .map (some (w.heap.size + 1)), .int .i64 0] 132))
      (w.heap.size + 2) w.heap.size (w.heap.size + 1) n 0 (fun _ => 0) := by
  refine ⟨h1, h2, fun _ _ => rfl, fun _ => by omega, ?_, ?_, .map [], ?_, fun i _ => rfl⟩
  · have := heap_alloc_new ((w.alloc (.cells (madeCells #[.int .u64 0] (nw n)) 61)).alloc (.map #[] 0)) (.cells #[.int .i64 n, .slice (some ⟨w.heap.size, 0, none⟩) (nw n) (nw n), .map (some (w.heap.size + 1)), .int .i64 0] 132)
    simp only [World.size_alloc, Nat.add_assoc, Nat.reduceAdd] at this
    rw [this, tk_zero]; rfl
  · rw [heap_alloc_old (h := by simp; omega), heap_alloc_old (h := by simp), heap_alloc_new, cells_zero]
  · have := World.ownsMap_made (H := Unit) (w.alloc (.cells (madeCells #[.int .u64 0] (nw n)) 61)) Tryd.prog 3 (plainElem Tryd.prog 3)
    simp only [World.size_alloc] at this
    exact this.alloc _

set_option maxRecDepth 100000 in
theorem bnew_ok (n : Nat) (w : World) (h1 : 1 ≤ n) (h2 : n ≤ 65536) : Calls Tryd.prog 52 #[.int .i64 n] w (NewSays n w) := by
  have e : ((n : Int) + 64 - 1) / 64 = (nw n : Int) := by unfold nw; omega
  have hmm := @run_makeMap Tryd.prog
  have hmk : ∀ w, (Instr.makeSlice 129 (.int .i64 (((n : Int) + 64 - 1) / 64)) (.int .i64 (((n : Int) + 64 - 1) / 64))).run Tryd.prog w = .ok (.slice (some ⟨w.heap.size, 0, none⟩) (nw n) (nw n)) (w.alloc (.cells (madeCells #[.int .u64 0] (nw n)) 61)) := by
    intro w
    rw [e]
    exact run_make_row' 129 61 (.int .u64 0) 8 Tryd.underlying129 info86 rfl .i64 .i64 (nw n) (by unfold nw; omega) (by unfold nw; omega) w
  clear e
  have hr := Lib.hid (new_row n w h1 h2)
  go_enter Tryd.func52, Tryd.ntmps52
  go_wp2
  refine bodyPost_ret (v := .tuple #[.pointer (some ⟨w.heap.size + 2, 0, none⟩), .int .i64 0]) ?_ rfl ?_
  · simp [results, Tryd.results52, go_sem]
  · exact ⟨w.heap.size + 2, w.heap.size, w.heap.size + 1, by omega, by omega, by omega, rfl, hr.out, (((Below.refl _ _).alloc (Nat.le_refl _) _).alloc (by simp) _).alloc (by simp; omega) _⟩

def holdRes (n : Nat) (L : Nat → Nat) (i : Int) : Int := if i < 0 ∨ (n : Int) ≤ i then 1 else if L i.toNat = 2147483647 then 5 else 0
def holdL (n : Nat) (L : Nat → Nat) (i : Int) : Nat → Nat := if i < 0 ∨ (n : Int) ≤ i then L else if L i.toNat = 2147483647 then L else up L i.toNat (L i.toNat + 1)
def dropFree (n : Nat) (L : Nat → Nat) (i : Int) : Bool := if i < 0 ∨ (n : Int) ≤ i then false else decide (L i.toNat = 1)
def dropRes (n : Nat) (L : Nat → Nat) (i : Int) : Int := if i < 0 ∨ (n : Int) ≤ i then 1 else if L i.toNat = 0 then 7 else 0
def dropL (n : Nat) (L : Nat → Nat) (i : Int) : Nat → Nat := if i < 0 ∨ (n : Int) ≤ i then L else up L i.toNat (L i.toNat - 1)
def timesI (n : Nat) (L : Nat → Nat) (i : Int) : Int := if i < 0 ∨ (n : Int) ≤ i then 0 else L i.toNat

theorem RowAt.mono {w : World} {b bw bm n m m' : Nat} {L : Nat → Nat} (h : RowAt w b bw bm n m L) (hm : m ≤ m') : RowAt w b bw bm n m' L := by
  obtain ⟨D, hD, hM⟩ := h.map
  exact ⟨h.lo, h.hi, h.off, h.most, h.row, h.words, D, hD.mono hm, hM⟩

def HoldSays (b bw bm n m : Nat) (L : Nat → Nat) (i : Int) (w : World) (e : Ending) (w' : World) : Prop :=
  e = .returned (.int .i64 (holdRes n L i)) ∧ RowAt w' b bw bm n (m + 1) (holdL n L i) ∧ Upd (Three b bw bm) w w'

theorem hold_any {w : World} {b bw bm n m : Nat} {L : Nat → Nat} (hr : RowAt w b bw bm n m L) (hm : m < 1000000000000) (i : Int) :
    Calls Tryd.prog 51 #[.pointer (some ⟨b, 0, none⟩), .int .i64 i] w (HoldSays b bw bm n m L i w) := by
  by_cases hi : i < 0 ∨ (n : Int) ≤ i
  · refine (hold_out b 0 n i w hr.c0 (by have := hr.lo; omega) hi).mono ?_
    rintro e w' ⟨rfl, rfl⟩
    exact ⟨by unfold holdRes; rw [if_pos hi], by unfold holdL; rw [if_pos hi]; exact hr.mono (by omega), Upd.refl _ _⟩
  · obtain ⟨k, rfl⟩ : ∃ k : Nat, i = k := ⟨i.toNat, by omega⟩
    have hk : k < n := by omega
    by_cases h5 : L k = 2147483647
    · refine (hold_most hr k hk h5).mono ?_
      rintro e w' ⟨rfl, rfl⟩
      exact ⟨by unfold holdRes; rw [if_neg hi, if_pos (by simpa using h5)], by unfold holdL; rw [if_neg hi, if_pos (by simpa using h5)]; exact hr.mono (by omega), Upd.refl _ _⟩
    · by_cases h0 : L k = 0
      · refine (hold_first hr k hk h0).mono ?_
        rintro e w' ⟨rfl, h1, h2⟩
        refine ⟨by unfold holdRes; rw [if_neg hi, if_neg (by simpa using h5)], ?_, h2⟩
        unfold holdL; rw [if_neg hi, if_neg (by simpa using h5)]
        simp only [Int.toNat_natCast, h0]
        exact h1.mono (by omega)
      · have hmo := hr.most k
        refine (hold_again hr k hk (by omega) (by omega) hm).mono ?_
        rintro e w' ⟨rfl, h1, h2⟩
        refine ⟨by unfold holdRes; rw [if_neg hi, if_neg (by simpa using h5)], ?_, h2⟩
        unfold holdL; rw [if_neg hi, if_neg (by simpa using h5)]
        simpa only [Int.toNat_natCast] using h1

def DropSays (b bw bm n m : Nat) (L : Nat → Nat) (i : Int) (w : World) (e : Ending) (w' : World) : Prop :=
  e = .returned (.tuple #[.bool (dropFree n L i), .int .i64 (dropRes n L i)]) ∧ RowAt w' b bw bm n (m + 1) (dropL n L i) ∧ Upd (Three b bw bm) w w'

theorem up_self (L : Nat → Nat) (i : Nat) : up L i (L i) = L := by
  funext k
  by_cases e : k = i
  · subst e; exact up_same _ _ _
  · exact up_other _ _ e

theorem drop_any {w : World} {b bw bm n m : Nat} {L : Nat → Nat} (hr : RowAt w b bw bm n m L) (hm : m < 1000000000000) (i : Int) :
    Calls Tryd.prog 45 #[.pointer (some ⟨b, 0, none⟩), .int .i64 i] w (DropSays b bw bm n m L i w) := by
  by_cases hi : i < 0 ∨ (n : Int) ≤ i
  · refine (drop_out b 0 n i w hr.c0 (by have := hr.lo; omega) hi).mono ?_
    rintro e w' ⟨rfl, rfl⟩
    exact ⟨by unfold dropFree dropRes; rw [if_pos hi, if_pos hi], by unfold dropL; rw [if_pos hi]; exact hr.mono (by omega), Upd.refl _ _⟩
  · obtain ⟨k, rfl⟩ : ∃ k : Nat, i = k := ⟨i.toNat, by omega⟩
    have hk : k < n := by omega
    have key : ∀ e w', (∃ x y, e = .returned (.tuple #[.bool x, .int .i64 y]) ∧ x = decide (L k = 1) ∧ y = (if L k = 0 then 7 else 0)) → RowAt w' b bw bm n (m + 1) (up L k (L k - 1)) → Upd (Three b bw bm) w w' → DropSays b bw bm n m L (k : Int) w e w' := by
      rintro e w' ⟨x, y, rfl, rfl, rfl⟩ h2 h3
      refine ⟨?_, ?_, h3⟩
      · unfold dropFree dropRes; rw [if_neg hi, if_neg hi]; simp only [Int.toNat_natCast]
      · unfold dropL; rw [if_neg hi]; simpa only [Int.toNat_natCast] using h2
    by_cases h0 : L k = 0
    · refine (drop_free hr k hk h0).mono ?_
      rintro e w' ⟨rfl, rfl⟩
      refine key _ _ ⟨_, _, rfl, by simp [h0], by simp [h0]⟩ ?_ (Upd.refl _ _)
      rw [show L k - 1 = L k by omega, up_self]; exact hr.mono (by omega)
    · by_cases h1 : L k = 1
      · refine (drop_last hr k hk h1).mono ?_
        rintro e w' ⟨rfl, h2, h3⟩
        exact key _ _ ⟨_, _, rfl, by simp [h1], by simp [h1]⟩ (by rw [h1]; exact h2.mono (by omega)) h3
      · by_cases h2 : L k = 2
        · refine (drop_two hr k hk h2).mono ?_
          rintro e w' ⟨rfl, h2', h3⟩
          exact key _ _ ⟨_, _, rfl, by simp [h1], by simp [h0]⟩ (by rw [h2]; exact h2'.mono (by omega)) h3
        · refine (drop_more hr k hk (by omega) hm).mono ?_
          rintro e w' ⟨rfl, h2', h3⟩
          exact key _ _ ⟨_, _, rfl, by simp [h1], by simp [h0]⟩ h2' h3

theorem times_any {w : World} {b bw bm n m : Nat} {L : Nat → Nat} (hr : RowAt w b bw bm n m L) (i : Int) :
    Calls Tryd.prog 47 #[.pointer (some ⟨b, 0, none⟩), .int .i64 i] w fun e w' => e = .returned (.int .i64 (timesI n L i)) ∧ w = w' := by
  unfold timesI
  by_cases hi : i < 0 ∨ (n : Int) ≤ i
  · rw [if_pos hi]
    exact times_out b 0 n i w hr.c0 (by have := hr.lo; omega) hi
  · rw [if_neg hi]
    obtain ⟨k, rfl⟩ : ∃ k : Nat, i = k := ⟨i.toNat, by omega⟩
    exact times_in hr k (by omega)

theorem free_all {w : World} {b bw bm n m : Nat} {L : Nat → Nat} (hr : RowAt w b bw bm n m L) (hT : TabAt w) (f : Int) :
    Calls Tryd.prog 50 #[.pointer (some ⟨b, 0, none⟩), .int .i64 f] w (FreeSays L n f.toNat w) := by
  by_cases h : f.toNat < n
  · exact free_any hr hT f _ rfl h
  · refine (free_beyond b 0 n f w hr.c0 (by omega)).mono ?_
    rintro e w' ⟨rfl, rfl⟩
    exact ⟨.none, fun i a b => by omega, rfl, rfl⟩

theorem size_at {w : World} {b bw bm n m : Nat} {L : Nat → Nat} (hr : RowAt w b bw bm n m L) :
    Calls Tryd.prog 61 #[.pointer (some ⟨b, 0, none⟩)] w fun e w' => e = .returned (.int .i64 n) ∧ w = w' := size_any _ _ _ _ hr.c0

end Go.Proofs.YtjhfoddhpmmjoaaDoor
