/-
  A field that is used rightly: each extent's tenant is kept beside. Condition: the blocks are its own.
-/
import Derived.Test.YtjhfoddhpmmjoaaDoorLaw17
import Derived.Test.YtjhfoddhpmmjoaaDoorOpen17
namespace Go.Proofs.YtjhfoddhpmmjoaaDoor
set_option maxRecDepth 100000
open Go.RowKit

def intsC (W : Nat → Int) (n : Nat) : Array Value := ((List.range n).map fun j => Value.int .i64 (W j)).toArray
theorem intsC_get (W : Nat → Int) {n j : Nat} (h : j < n) : (intsC W n)[j]? = some (.int .i64 (W j)) := by simp [intsC, h]
def upI (W : Nat → Int) (i : Nat) (v : Int) : Nat → Int := fun k => if k = i then v else W k
theorem upI_same (W : Nat → Int) (i : Nat) (v : Int) : upI W i v i = v := if_pos rfl
theorem upI_other (W : Nat → Int) {i k : Nat} (v : Int) (h : k ≠ i) : upI W i v k = W k := if_neg h
theorem intsC_up (W : Nat → Int) {n i : Nat} {v : Int} : (intsC W n).setIfInBounds i (.int .i64 v) = intsC (upI W i v) n := by
  apply Array.ext
  · simp [intsC]
  · intro k h1 h2
    have hk : k < n := by simpa [intsC] using h2
    rw [Array.getElem_setIfInBounds]
    · by_cases e : i = k
      · subst e; simp [intsC, upI_same]
      · simp [intsC, e, upI_other W v (fun h => e h.symm)]
    · simpa [intsC] using hk
theorem infoInt17 : (Tryd.prog.info? 3).map (fun i => (i.zero, i.size, i.bytes)) = some (some (.int .i64 0), 1, 8) := by kernel_rfl
theorem ints_zero17 (n : Nat) : madeCells #[.int .i64 0] n = intsC (fun _ => 0) n := by
  apply Array.ext
  · simp [madeCells, intsC]
  · intro i h1 h2
    simp [madeCells, intsC, Nat.mod_one]
theorem FieldAt.lts {w : World} {b rb rw rm n m : Nat} {L : Nat → Nat} {T : Nat → Ten} (h : FieldAt w b rb rw rm n m L T) {k : Nat} (hk : Four b rb rw rm k) : k < w.heap.size := by
  rcases hk with rfl | rfl | rfl | rfl
  · exact h.f.lt
  · exact lt_of_block h.r.row
  · exact lt_of_block h.r.words
  · obtain ⟨D, hD, _⟩ := h.r.map; exact hD.lt
/-- A field and whose each extent is. -/
structure OwnF (w : World) (ob b rb rw rm wb n m : Nat) (L : Nat → Nat) (T : Nat → Ten) (W : Nat → Int) : Prop where
  f : FieldAt w b rb rw rm n m L T
  o : w.heap[ob]? = some (.cells #[.pointer (some ⟨b, 0, none⟩), .slice (some ⟨wb, 0, none⟩) n n] 31 (0, 0))
  w : w.heap[wb]? = some (.cells (intsC W n) 3 (0, 0))
  ne1 : ¬ Four b rb rw rm ob
  ne2 : ¬ Four b rb rw rm wb
  lo : 1 ≤ n
def Six (ob b rb rw rm wb : Nat) : Nat → Prop := fun k => k = ob ∨ k = wb ∨ Four b rb rw rm k
section
variable {w w' : World} {ob b rb rw rm wb n m m' : Nat} {L L' : Nat → Nat} {T T' : Nat → Ten} {W : Nat → Int}
theorem OwnF.below (h : OwnF w ob b rb rw rm wb n m L T W) (hB : Below w.heap.size w w') : OwnF w' ob b rb rw rm wb n m L T W :=
  ⟨h.f.below hB, (hB.block _ (lt_of_block h.o)).trans h.o, (hB.block _ (lt_of_block h.w)).trans h.w, h.ne1, h.ne2, h.lo⟩
theorem OwnF.drew (h : OwnF w ob b rb rw rm wb n m L T W) : OwnF w.drew ob b rb rw rm wb n m L T W := h.below (Below.refl _ _).drew
theorem OwnF.turn (h : OwnF w ob b rb rw rm wb n m L T W) (hf : FieldAt w' b rb rw rm n m' L' T') (hU : Upd (Four b rb rw rm) w w') : OwnF w' ob b rb rw rm wb n m' L' T' W :=
  ⟨hf, hU.at h.o h.ne1, hU.at h.w h.ne2, h.ne1, h.ne2, h.lo⟩
theorem OwnF.mono (h : OwnF w ob b rb rw rm wb n m L T W) (hm : m ≤ m') : OwnF w ob b rb rw rm wb n m' L T W := ⟨h.f.mono hm, h.o, h.w, h.ne1, h.ne2, h.lo⟩
theorem OwnF.o0 (h : OwnF w ob b rb rw rm wb n m L T W) : w.cell? ⟨ob, 0, none⟩ = some (.pointer (some ⟨b, 0, none⟩)) := (cell_of_row _ _ 0 _ _ _ h.o).trans rfl
theorem OwnF.o1 (h : OwnF w ob b rb rw rm wb n m L T W) : w.cell? ⟨ob, 1, none⟩ = some (.slice (some ⟨wb, 0, none⟩) n n) := (cell_of_row _ _ 1 _ _ _ h.o).trans rfl
theorem OwnF.own (h : OwnF w ob b rb rw rm wb n m L T W) {i : Nat} (hi : i < n) : w.cell? ⟨wb, i, none⟩ = some (.int .i64 (W i)) := by rw [cell_of_row _ _ _ _ _ _ h.w, intsC_get W hi]
theorem OwnF.owb (h : OwnF w ob b rb rw rm wb n m L T W) : ob ≠ wb := by
  intro e; have h1 := h.o; rw [e, h.w] at h1
  simp at h1
theorem OwnF.frozen (h : OwnF w ob b rb rw rm wb n m L T W) (k : Nat) : w.frozen? ⟨wb, k, none⟩ = false := frozen_of_row _ _ _ _ _ h.w
theorem upd_six_four (hU : Upd (Four b rb rw rm) w w') : Upd (Six ob b rb rw rm wb) w w' := hU.mono fun _ _ e => .inr (.inr e)
theorem OwnF.put (h : OwnF w ob b rb rw rm wb n m L T W) (i : Nat) (v : Int) : OwnF (w.setCell ⟨wb, i, none⟩ (.int .i64 v)) ob b rb rw rm wb n m L T (upI W i v) ∧ Upd (fun k => k = wb) w (w.setCell ⟨wb, i, none⟩ (.int .i64 v)) := by
  have hU : Upd (fun k => k = wb) w (w.setCell ⟨wb, i, none⟩ (.int .i64 v)) := (Upd.refl _ w).setCell ⟨wb, i, none⟩ _ (fun _ => rfl)
  refine ⟨⟨?_, hU.at h.o h.owb, ?_, h.ne1, h.ne2, h.lo⟩, hU⟩
  · have h2 := h.ne2
    unfold Four Three at h2
    exact ⟨h.f.f.other (hU.block _ h.f.f.lt (by omega)), h.f.r.stay hU (by omega) (by omega) (by omega), h.f.ne, h.f.good, h.f.small⟩
  · rw [heap_setCell_same _ _ _ _ _ _ h.w, intsC_up]
end
set_option maxRecDepth 100000 in
theorem begin17_ok (w : World) (n : Nat) (h1 : 1 ≤ n) (h2 : n ≤ 2048) :
    Calls Tryd.prog 12 #[.int .i64 (n : Int)] w fun e w' => ∃ ob b rb rw rm wb, w.heap.size ≤ ob ∧ w.heap.size ≤ b ∧ w.heap.size ≤ rb ∧ w.heap.size ≤ rw ∧ w.heap.size ≤ rm ∧ w.heap.size ≤ wb ∧ e = .returned (.tuple #[.pointer (some ⟨ob, 0, none⟩), .bool true]) ∧
      OwnF w' ob b rb rw rm wb n 0 (fun _ => 0) (fun _ => Ten.no) (fun _ => 0) ∧ Below w.heap.size w w' := by
  have cb := Lib.hid (enew_ok w n h1 h2)
  have hmk := run_make_row' (P := Tryd.prog) 29 3 (.int .i64 0) 8 Tryd.underlying29 infoInt17 rfl .i64 .i64 n (by omega) (by omega)
  go_enter Tryd.func12, Tryd.ntmps12
  go_wp2_with fail
  refine cb.out.mono ?_
  rintro e w1 ⟨b, rb, rw_, rm, g0, g1, g2, g3, rfl, hF, B1⟩
  clear cb
  have lts := fun k hk => hF.lts (k := k) hk
  have fr : ∀ k, k ≥ w1.heap.size → ¬ Four b rb rw_ rm k := fun k hk e => absurd (lts k e) (by omega)
  have BA : Below w1.heap.size w1 ((w1.alloc (.cells (madeCells #[.int .i64 0] n) 3)).alloc (.cells #[.pointer (some ⟨b, 0, none⟩), .slice (some ⟨w1.heap.size, 0, none⟩) n n] 31)) := ((Below.refl _ _).alloc (Nat.le_refl _) _).alloc (by simp) _
  have hO : OwnF ((w1.alloc (.cells (madeCells #[.int .i64 0] n) 3)).alloc (.cells #[.pointer (some ⟨b, 0, none⟩), .slice (some ⟨w1.heap.size, 0, none⟩) n n] 31)) (w1.heap.size + 1) b rb rw_ rm w1.heap.size n 0 (fun _ => 0) (fun _ => Ten.no) (fun _ => 0) :=
    ⟨hF.below BA, heap_alloc2_new _ _ _, by rw [heap_alloc_old (h := by simp), heap_alloc_new, ints_zero17], fr _ (by omega), fr _ (by omega), h1⟩
  have BB := B1.trans (BA.mono B1.size)
  have hsz := B1.size
  clear hF B1 lts fr BA
  replace hO := Lib.hid hO
  replace BB := Lib.hid BB
  replace g0 := Lib.hid g0
  replace g1 := Lib.hid g1
  replace g2 := Lib.hid g2
  replace g3 := Lib.hid g3
  go_wp2_with fail
  go_ret2
  exact ⟨w1.heap.size + 1, b, rb, rw_, rm, w1.heap.size, by omega, g0.out, g1.out, g2.out, g3.out, by omega, rfl, hO.out, BB.out⟩
end Go.Proofs.YtjhfoddhpmmjoaaDoor
