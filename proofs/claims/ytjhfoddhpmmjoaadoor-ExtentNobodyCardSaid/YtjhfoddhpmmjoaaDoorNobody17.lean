/-
  ExtentNobody: the walk. The table of math/bits stands in the world: the one condition.
-/
import Derived.Test.YtjhfoddhpmmjoaaDoorLaw17
import Derived.Test.YtjhfoddhpmmjoaaDoorExtNo
import Derived.Test.YtjhfoddhpmmjoaaDoorRowB
namespace Go.Proofs.YtjhfoddhpmmjoaaDoor
open Go.RowKit
theorem name_call {P : Program} {F : FuncId} {vs : Array Value} {x : World} {K : Ending → World → Prop} (h : ∀ wn, Hid (wn = x) → Calls P F vs wn K) : Calls P F vs x K := h x rfl
/-- What ExtentNobody keeps. -/
structure Nob (w0 w : World) (t a b : Int) (x : Nat) : Prop where
  low : Below w0.heap.size w0 w
  tab : TabAt w
  tl : 0 < w0.heap.size
  lt : w0.heap.size + 1 < w.heap.size
  c : w.cell? ⟨w0.heap.size, 1, none⟩ = some (.int .i64 t) ∧ w.cell? ⟨w0.heap.size, 2, none⟩ = some (.int .i64 a) ∧ w.cell? ⟨w0.heap.size, 3, none⟩ = some (.int .i64 b) ∧ w.cell? ⟨w0.heap.size, 4, none⟩ = some (.int .u32 (x : Int))
  u : w.cell? ⟨w0.heap.size + 1, 0, none⟩ = some (.pointer none)
section
variable {w0 w w' : World} {t a b : Int} {x : Nat}
theorem Nob.below (h : Nob w0 w t a b x) (hB : Below w.heap.size w w') : Nob w0 w' t a b x :=
  ⟨h.low.trans (hB.mono h.low.size), h.tab.below hB, h.tl, Nat.lt_of_lt_of_le h.lt hB.size, ⟨(hB.cell (block_lt_of_cell h.c.1)).trans h.c.1, (hB.cell (block_lt_of_cell h.c.2.1)).trans h.c.2.1, (hB.cell (block_lt_of_cell h.c.2.2.1)).trans h.c.2.2.1, (hB.cell (block_lt_of_cell h.c.2.2.2)).trans h.c.2.2.2⟩, (hB.cell (block_lt_of_cell h.u)).trans h.u⟩
theorem Nob.drew (h : Nob w0 w t a b x) : Nob w0 w.drew t a b x := h.below (Below.refl _ _).drew
theorem Nob.no (h : Nob w0 w t a b x) : NoField w (.pointer (some ⟨w0.heap.size + 1, 0, none⟩)) := .inr ⟨_, _, rfl, h.u⟩
theorem Nob.put {g : Nat} (h : Nob w0 w t a b x) (hU : Upd (fun i => i = g) w w') (hg : w0.heap.size + 1 < g) : Nob w0 w' t a b x := by
  have C := fun (k o : Nat) (hk : k < w0.heap.size + 2) => hU.cell (p := ⟨k, o, none⟩) (Nat.lt_of_lt_of_le hk h.lt) (by show ¬ k = g; omega)
  have hl := h.tl
  have hs := h.lt
  exact ⟨h.low.trans (hU.below (fun k hk e => by omega) h.low.size), fun i v hv => (C _ _ (by omega)).trans (h.tab i v hv), h.tl, Nat.lt_of_lt_of_le h.lt hU.size, ⟨(C _ _ (by omega)).trans h.c.1, (C _ _ (by omega)).trans h.c.2.1, (C _ _ (by omega)).trans h.c.2.2.1, (C _ _ (by omega)).trans h.c.2.2.2⟩, (C _ _ (by omega)).trans h.u⟩
theorem Nob.begin (h : TabAt w0) (k : Int) : Nob w0 ((w0.alloc (.cells #[.int .i64 k, .int .i64 t, .int .i64 a, .int .i64 b, .int .u32 (x : Int)] 36)).alloc (.cells (fieldCells none (fun _ => Ten.no)) 68)) t a b x := by
  have B1 : Below w0.heap.size w0 ((w0.alloc (.cells #[.int .i64 k, .int .i64 t, .int .i64 a, .int .i64 b, .int .u32 (x : Int)] 36)).alloc (.cells (fieldCells none (fun _ => Ten.no)) 68)) := ((Below.refl _ _).alloc (Nat.le_refl _) _).alloc (by simp) _
  refine ⟨B1, h.below B1, block_lt_of_cell (h 0 0 rfl), by simp, ⟨by simp, by simp, by simp, by simp⟩, ?_⟩
  rw [show w0.heap.size + 1 = (w0.alloc (.cells #[.int .i64 k, .int .i64 t, .int .i64 a, .int .i64 b, .int .u32 (x : Int)] 36)).heap.size by simp]
  exact (cell_of_row _ _ _ _ _ _ (heap_alloc_new _ _)).trans rfl
end
def six8 : List Value := List.replicate 8 (.int .i64 6)
theorem infoErrs8 : (Tryd.prog.info? 71).map (·.size) = some 8 := by kernel_rfl
/-- Eight errors stored. -/
theorem wp_store_e {w : World} {o : Oper} {a : Act} {K : Act → World → Prop} {Q : Exit → Act → World → Prop} (x y : Operand) (ho : o.op = .store 71 x y)
    (g : Nat) (hx : a.eval x = .pointer (some ⟨g, 0, none⟩)) (hy : a.eval y = .agg six8.toArray) (old : Array Value) (hg : w.heap[g]? = some (.cells old 71 (0, 0)))
    (hold : old.size = 8) (h : ∀ w', Hid (w'.heap[g]? = some (.cells six8.toArray 71 (0, 0))) → Hid (Upd (fun i => i = g) w w') → K (a.put o.dst undef) w') : o.wp Tryd.prog a w K Q := by
  refine wp_store_row 71 x y ho g six8.toArray hx hy 71 old hg infoErrs8 hold (by simp [six8, Value.oneCell']) ?_
  exact h _ (setRow_heap _ _ _ _ _ _ hg) (Upd.setRow (Upd.refl _ _) g _ (fun _ => rfl))
theorem onceN {P R : World → Prop} {G : Prop} (tree : (∀ w, R w → P w) → G) (leaf : ∀ w, R w → P w) : G := tree leaf
set_option maxHeartbeats 4000000 in
set_option maxRecDepth 100000 in
theorem nobody17_any (k t a b : Int) (x : Nat) (w : World) (hT : TabAt w) : Calls Tryd.prog 7 #[.agg #[.int .i64 k, .int .i64 t, .int .i64 a, .int .i64 b, .int .u32 (x : Int)]] w fun e w' => e = .returned (.bool true) ∧ Below w.heap.size w w' := by
  have st0 := Nob.begin (t := t) (a := a) (b := b) (x := x) hT k
  clear hT
  replace st0 := Lib.hid st0
  go_enter Tryd.func7, Tryd.ntmps7
  go_wp2_with fail
  refine name_call (fun w1 hw1 => ?_)
  have st1 : Nob w w1 t a b x := by rw [hw1.out]; exact st0.out
  clear hw1 st0
  have n1 := st1.no
  obtain ⟨c1, c2, c3, c4⟩ := st1.c
  replace st1 := Lib.hid st1
  replace n1 := Lib.hid n1
  refine (etake_none _ _ _ (.inl rfl)).mono ?_
  rintro e _ ⟨rfl, rfl⟩
  go_wp2_with fail
  refine (etake_none _ _ _ n1.out).mono ?_
  rintro e _ ⟨rfl, rfl⟩
  go_wp2_with fail
  refine (elimits_no _ _ _ (.inl rfl)).mono ?_
  rintro e _ ⟨rfl, rfl⟩
  go_wp2_with fail
  have st := st1.out.drew
  have eN : w.heap.size + 1 < w1.heap.size := st1.out.lt
  clear c1 c2 c3 c4 n1 st1
  replace st := Lib.hid st
  apply onceN (R := fun w3 => Hid (Nob w w3 t a b x) ∧ Hid (w3.heap[w1.heap.size]? = some (.cells six8.toArray 71 (0, 0))))
  case tree =>
    intro leaf
    refine wp_region_held_drew (S := (fun w' => w'.cell? ⟨w.heap.size, 1, none⟩ = some (.int .i64 t) ∧ w'.cell? ⟨w.heap.size, 2, none⟩ = some (.int .i64 a) ∧ w'.cell? ⟨w.heap.size, 3, none⟩ = some (.int .i64 b) ∧ w'.cell? ⟨w.heap.size, 4, none⟩ = some (.int .u32 (x : Int)))) (by kernel_rfl) (st.out.c) (fun hHeld => ?_)
    refine held_take (i := 0) (v := ?_) rfl (by kernel_rfl) (by kernel_rfl) (by kernel_rfl) (fun _ _ _ h => h) (Or.inl ⟨by rfl, ?_⟩) (by assumption) ?_
    rotate_left
    · intro w hSw; (try dsimp only at hSw); go_simp; try with_reducible rfl
    try simp only [Act.put, List.setIfInBounds_toArray, List.set_cons_zero, List.set_cons_succ]
    refine held_take (i := 1) (v := ?_) rfl (by kernel_rfl) (by kernel_rfl) (by kernel_rfl) (fun _ _ _ h => h) (Or.inl ⟨by rfl, ?_⟩) (by assumption) ?_
    rotate_left
    · intro w hSw; (try dsimp only at hSw); go_simp; try with_reducible rfl
    try simp only [Act.put, List.setIfInBounds_toArray, List.set_cons_zero, List.set_cons_succ]
    refine held_take (i := 2) (v := ?_) rfl (by kernel_rfl) (by kernel_rfl) (by kernel_rfl) (fun _ _ _ h => h) (Or.inl ⟨by rfl, ?_⟩) (by assumption) ?_
    rotate_left
    · intro w hSw; (try dsimp only at hSw); go_simp; try with_reducible rfl
    try simp only [Act.put, List.setIfInBounds_toArray, List.set_cons_zero, List.set_cons_succ]
    refine held_take (i := 3) (v := ?_) rfl (by kernel_rfl) (by kernel_rfl) (by kernel_rfl) (fun _ _ _ h => h) (Or.inl ⟨by rfl, ?_⟩) (by assumption) ?_
    rotate_left
    · intro w hSw; (try dsimp only at hSw); go_simp; try with_reducible rfl
    try simp only [Act.put, List.setIfInBounds_toArray, List.set_cons_zero, List.set_cons_succ]
    refine held_take (i := 4) (v := ?_) rfl (by kernel_rfl) (by kernel_rfl) (by kernel_rfl) (fun _ _ _ h => h) (Or.inl ⟨by rfl, ?_⟩) (by assumption) ?_
    rotate_left
    · intro w hSw; (try dsimp only at hSw); go_simp; try with_reducible rfl
    try simp only [Act.put, List.setIfInBounds_toArray, List.set_cons_zero, List.set_cons_succ]
    refine held_take (i := 5) (v := ?_) rfl (by kernel_rfl) (by kernel_rfl) (by kernel_rfl) (fun _ _ _ h => h) (Or.inl ⟨by rfl, ?_⟩) (by assumption) ?_
    rotate_left
    · intro w hSw; (try dsimp only at hSw); go_simp; try with_reducible rfl
    try simp only [Act.put, List.setIfInBounds_toArray, List.set_cons_zero, List.set_cons_succ]
    refine held_take (i := 6) (v := ?_) rfl (by kernel_rfl) (by kernel_rfl) (by kernel_rfl) (fun _ _ _ h => h) (Or.inl ⟨by rfl, ?_⟩) (by assumption) ?_
    rotate_left
    · intro w hSw; (try dsimp only at hSw); go_simp; try with_reducible rfl
    try simp only [Act.put, List.setIfInBounds_toArray, List.set_cons_zero, List.set_cons_succ]
    refine held_take (i := 7) (v := ?_) rfl (by kernel_rfl) (by kernel_rfl) (by kernel_rfl) (fun _ _ _ h => h) (Or.inl ⟨by rfl, ?_⟩) (by assumption) ?_
    rotate_left
    · intro w hSw; (try dsimp only at hSw); go_simp; try with_reducible rfl
    try simp only [Act.put, List.setIfInBounds_toArray, List.set_cons_zero, List.set_cons_succ]
    refine held_take (i := 8) (v := ?_) rfl (by kernel_rfl) (by kernel_rfl) (by kernel_rfl) (fun _ _ _ h => h) (Or.inl ⟨by rfl, ?_⟩) (by assumption) ?_
    rotate_left
    · intro w hSw; (try dsimp only at hSw); go_simp; try with_reducible rfl
    try simp only [Act.put, List.setIfInBounds_toArray, List.set_cons_zero, List.set_cons_succ]
    refine held_take (i := 10) (v := ?_) rfl (by kernel_rfl) (by kernel_rfl) (by kernel_rfl) (fun _ _ _ h => h) (Or.inl ⟨by rfl, ?_⟩) (by assumption) ?_
    rotate_left
    · intro w hSw; (try dsimp only at hSw); go_simp; try with_reducible rfl
    try simp only [Act.put, List.setIfInBounds_toArray, List.set_cons_zero, List.set_cons_succ]
    refine held_take (i := 11) (v := ?_) rfl (by kernel_rfl) (by kernel_rfl) (by kernel_rfl) (fun _ _ _ h => h) (Or.inl ⟨by rfl, ?_⟩) (by assumption) ?_
    rotate_left
    · intro w hSw; (try dsimp only at hSw); go_simp; try with_reducible rfl
    try simp only [Act.put, List.setIfInBounds_toArray, List.set_cons_zero, List.set_cons_succ]
    refine held_take (i := 12) (v := ?_) rfl (by kernel_rfl) (by kernel_rfl) (by kernel_rfl) (fun _ _ _ h => h) (Or.inl ⟨by rfl, ?_⟩) (by assumption) ?_
    rotate_left
    · intro w hSw; (try dsimp only at hSw); go_simp; try with_reducible rfl
    try simp only [Act.put, List.setIfInBounds_toArray, List.set_cons_zero, List.set_cons_succ]
    refine held_take (i := 13) (v := ?_) rfl (by kernel_rfl) (by kernel_rfl) (by kernel_rfl) (fun _ _ _ h => h) (Or.inl ⟨by rfl, ?_⟩) (by assumption) ?_
    rotate_left
    · intro w hSw; (try dsimp only at hSw); go_simp; try with_reducible rfl
    try simp only [Act.put, List.setIfInBounds_toArray, List.set_cons_zero, List.set_cons_succ]
    refine held_take (i := 14) (v := ?_) rfl (by kernel_rfl) (by kernel_rfl) (by kernel_rfl) (fun _ _ _ h => h) (Or.inl ⟨by rfl, ?_⟩) (by assumption) ?_
    rotate_left
    · intro w hSw; (try dsimp only at hSw); go_simp; try with_reducible rfl
    try simp only [Act.put, List.setIfInBounds_toArray, List.set_cons_zero, List.set_cons_succ]
    refine held_take (i := 15) (v := ?_) rfl (by kernel_rfl) (by kernel_rfl) (by kernel_rfl) (fun _ _ _ h => h) (Or.inl ⟨by rfl, ?_⟩) (by assumption) ?_
    rotate_left
    · intro w hSw; (try dsimp only at hSw); go_simp; try with_reducible rfl
    try simp only [Act.put, List.setIfInBounds_toArray, List.set_cons_zero, List.set_cons_succ]
    refine held_take (i := 17) (v := ?_) rfl (by kernel_rfl) (by kernel_rfl) (by kernel_rfl) (fun _ _ _ h => h) (Or.inl ⟨by rfl, ?_⟩) (by assumption) ?_
    rotate_left
    · intro w hSw; (try dsimp only at hSw); go_simp; try with_reducible rfl
    try simp only [Act.put, List.setIfInBounds_toArray, List.set_cons_zero, List.set_cons_succ]
    refine held_take (i := 18) (v := ?_) rfl (by kernel_rfl) (by kernel_rfl) (by kernel_rfl) (fun _ _ _ h => h) (Or.inl ⟨by rfl, ?_⟩) (by assumption) ?_
    rotate_left
    · intro w hSw; (try dsimp only at hSw); go_simp; try with_reducible rfl
    try simp only [Act.put, List.setIfInBounds_toArray, List.set_cons_zero, List.set_cons_succ]
    refine held_take (i := 19) (v := ?_) rfl (by kernel_rfl) (by kernel_rfl) (by kernel_rfl) (fun _ _ _ h => h) (Or.inl ⟨by rfl, ?_⟩) (by assumption) ?_
    rotate_left
    · intro w hSw; (try dsimp only at hSw); go_simp; try with_reducible rfl
    try simp only [Act.put, List.setIfInBounds_toArray, List.set_cons_zero, List.set_cons_succ]
    refine held_take (i := 21) (v := ?_) rfl (by kernel_rfl) (by kernel_rfl) (by kernel_rfl) (fun _ _ _ h => h) (Or.inl ⟨by rfl, ?_⟩) (by assumption) ?_
    rotate_left
    · intro w hSw; (try dsimp only at hSw); go_simp; try with_reducible rfl
    try simp only [Act.put, List.setIfInBounds_toArray, List.set_cons_zero, List.set_cons_succ]
    refine held_take (i := 22) (v := ?_) rfl (by kernel_rfl) (by kernel_rfl) (by kernel_rfl) (fun _ _ _ h => h) (Or.inl ⟨by rfl, ?_⟩) (by assumption) ?_
    rotate_left
    · intro w hSw; (try dsimp only at hSw); go_simp; try with_reducible rfl
    try simp only [Act.put, List.setIfInBounds_toArray, List.set_cons_zero, List.set_cons_succ]
    refine held_take (i := 23) (v := ?_) rfl (by kernel_rfl) (by kernel_rfl) (by kernel_rfl) (fun _ _ _ h => h) (Or.inl ⟨by rfl, ?_⟩) (by assumption) ?_
    rotate_left
    · intro w hSw; (try dsimp only at hSw); go_simp; try with_reducible rfl
    try simp only [Act.put, List.setIfInBounds_toArray, List.set_cons_zero, List.set_cons_succ]
    refine held_take (i := 24) (v := ?_) rfl (by kernel_rfl) (by kernel_rfl) (by kernel_rfl) (fun _ _ _ h => h) (Or.inl ⟨by rfl, ?_⟩) (by assumption) ?_
    rotate_left
    · intro w hSw; (try dsimp only at hSw); go_simp; try with_reducible rfl
    try simp only [Act.put, List.setIfInBounds_toArray, List.set_cons_zero, List.set_cons_succ]
    refine held_take (i := 26) (v := ?_) rfl (by kernel_rfl) (by kernel_rfl) (by kernel_rfl) (fun _ _ _ h => h) (Or.inl ⟨by rfl, ?_⟩) (by assumption) ?_
    rotate_left
    · intro w hSw; (try dsimp only at hSw); go_simp; try with_reducible rfl
    try simp only [Act.put, List.setIfInBounds_toArray, List.set_cons_zero, List.set_cons_succ]
    refine held_take (i := 27) (v := ?_) rfl (by kernel_rfl) (by kernel_rfl) (by kernel_rfl) (fun _ _ _ h => h) (Or.inl ⟨by rfl, ?_⟩) (by assumption) ?_
    rotate_left
    · intro w hSw; (try dsimp only at hSw); go_simp; try with_reducible rfl
    try simp only [Act.put, List.setIfInBounds_toArray, List.set_cons_zero, List.set_cons_succ]
    refine held_take (i := 28) (v := ?_) rfl (by kernel_rfl) (by kernel_rfl) (by kernel_rfl) (fun _ _ _ h => h) (Or.inl ⟨by rfl, ?_⟩) (by assumption) ?_
    rotate_left
    · intro w hSw; (try dsimp only at hSw); go_simp; try with_reducible rfl
    try simp only [Act.put, List.setIfInBounds_toArray, List.set_cons_zero, List.set_cons_succ]
    refine held_take (i := 30) (v := ?_) rfl (by kernel_rfl) (by kernel_rfl) (by kernel_rfl) (fun _ _ _ h => h) (Or.inl ⟨by rfl, ?_⟩) (by assumption) ?_
    rotate_left
    · intro w hSw; (try dsimp only at hSw); go_simp; try with_reducible rfl
    try simp only [Act.put, List.setIfInBounds_toArray, List.set_cons_zero, List.set_cons_succ]
    refine held_take (i := 31) (v := ?_) rfl (by kernel_rfl) (by kernel_rfl) (by kernel_rfl) (fun _ _ _ h => h) (Or.inl ⟨by rfl, ?_⟩) (by assumption) ?_
    rotate_left
    · intro w hSw; (try dsimp only at hSw); go_simp; try with_reducible rfl
    try simp only [Act.put, List.setIfInBounds_toArray, List.set_cons_zero, List.set_cons_succ]
    refine held_take (i := 32) (v := ?_) rfl (by kernel_rfl) (by kernel_rfl) (by kernel_rfl) (fun _ _ _ h => h) (Or.inl ⟨by rfl, ?_⟩) (by assumption) ?_
    rotate_left
    · intro w hSw; (try dsimp only at hSw); go_simp; try with_reducible rfl
    try simp only [Act.put, List.setIfInBounds_toArray, List.set_cons_zero, List.set_cons_succ]
    refine held_take (i := 33) (v := ?_) rfl (by kernel_rfl) (by kernel_rfl) (by kernel_rfl) (fun _ _ _ h => h) (Or.inl ⟨by rfl, ?_⟩) (by assumption) ?_
    rotate_left
    · intro w hSw; (try dsimp only at hSw); go_simp; try with_reducible rfl
    try simp only [Act.put, List.setIfInBounds_toArray, List.set_cons_zero, List.set_cons_succ]
    refine held_readies2 (i0 := 9) (i1 := 36) rfl rfl (by kernel_rfl) (fun K hK => ?_) (fun K hK => ?_)
    ·
      go_simp
      refine (eadmit_no _ _ _ _ _ (.inl rfl)).mono ?_
      rintro e _ ⟨rfl, rfl⟩
      refine hK.out _ _ (st.out.c) (fun hHeldN => ?_)
      clear hHeld hK K
      have hHeld := hHeldN
      clear hHeldN
      try simp only [Act.put, List.setIfInBounds_toArray, List.set_cons_zero, List.set_cons_succ]
      refine held_readies2 (i0 := 16) (i1 := 36) rfl rfl (by kernel_rfl) (fun K hK => ?_) (fun K hK => ?_)
      ·
        go_simp
        refine (eresize_no _ _ _ _ _ st.out.no).mono ?_
        rintro e _ ⟨rfl, rfl⟩
        refine hK.out _ _ (st.out.c) (fun hHeldN => ?_)
        clear hHeld hK K
        have hHeld := hHeldN
        clear hHeldN
        try simp only [Act.put, List.setIfInBounds_toArray, List.set_cons_zero, List.set_cons_succ]
        refine held_readies2 (i0 := 20) (i1 := 36) rfl rfl (by kernel_rfl) (fun K hK => ?_) (fun K hK => ?_)
        ·
          go_simp
          refine (eremove_no _ _ _ (.inl rfl)).mono ?_
          rintro e _ ⟨rfl, rfl⟩
          refine hK.out _ _ (st.out.c) (fun hHeldN => ?_)
          clear hHeld hK K
          have hHeld := hHeldN
          clear hHeldN
          try simp only [Act.put, List.setIfInBounds_toArray, List.set_cons_zero, List.set_cons_succ]
          refine held_readies2 (i0 := 25) (i1 := 36) rfl rfl (by kernel_rfl) (fun K hK => ?_) (fun K hK => ?_)
          ·
            go_simp
            refine (eclaim_no _ _ _ _ st.out.no).mono ?_
            rintro e _ ⟨rfl, rfl⟩
            refine hK.out _ _ (st.out.c) (fun hHeldN => ?_)
            clear hHeld hK K
            have hHeld := hHeldN
            clear hHeldN
            try simp only [Act.put, List.setIfInBounds_toArray, List.set_cons_zero, List.set_cons_succ]
            refine held_readies2 (i0 := 29) (i1 := 36) rfl rfl (by kernel_rfl) (fun K hK => ?_) (fun K hK => ?_)
            ·
              go_simp
              refine (ehold_no _ _ _ (.inl rfl)).mono ?_
              rintro e _ ⟨rfl, rfl⟩
              refine hK.out _ _ (st.out.c) (fun hHeldN => ?_)
              clear hHeld hK K
              have hHeld := hHeldN
              clear hHeldN
              try simp only [Act.put, List.setIfInBounds_toArray, List.set_cons_zero, List.set_cons_succ]
              refine held_readies2 (i0 := 34) (i1 := 36) rfl rfl (by kernel_rfl) (fun K hK => ?_) (fun K hK => ?_)
              ·
                go_simp
                refine (edrop_no _ _ _ _ st.out.no).mono ?_
                rintro e _ ⟨rfl, rfl⟩
                refine hK.out _ _ (st.out.c) (fun hHeldN => ?_)
                clear hHeld hK K
                have hHeld := hHeldN
                clear hHeldN
                try simp only [Act.put, List.setIfInBounds_toArray, List.set_cons_zero, List.set_cons_succ]
                refine held_take (i := 35) (v := ?_) rfl (by kernel_rfl) (by kernel_rfl) (by kernel_rfl) (fun _ _ _ h => h) (Or.inl ⟨by rfl, ?_⟩) (by assumption) ?_
                rotate_left
                · intro w hSw; (try dsimp only at hSw); go_simp; try with_reducible rfl
                try simp only [Act.put, List.setIfInBounds_toArray, List.set_cons_zero, List.set_cons_succ]
                refine held_ready (i := 36) rfl (by kernel_rfl) (fun K hK => ?_)
                rw [if_pos (by rfl)]
                go_simp
                replace st := Lib.hid (st.out.below ((Below.refl _ _).alloc (Nat.le_refl _) (.cells (List.replicate 8 (.int .i64 0)).toArray 71)))
                refine hK.out _ _ (st.out.c) (fun hHeldN => ?_)
                clear hHeld hK K
                have hHeld := hHeldN
                clear hHeldN
                try simp only [Act.put, List.setIfInBounds_toArray, List.set_cons_zero, List.set_cons_succ]
                refine held_ready (i := 37) rfl (by kernel_rfl) (fun K hK => ?_)
                rw [if_pos (by rfl)]
                refine wp_store_e (.tmp 12) (.tmp 70) rfl w1.heap.size rfl rfl (List.replicate 8 (.int .i64 0)).toArray (heap_alloc_new _ _) rfl ?_
                intro w3 R3 U3
                have st3 := st.out.put U3.out eN
                refine hK.out _ _ (st3.c) (fun hHeldN => ?_)
                clear hHeld hK K
                have hHeld := hHeldN
                clear hHeldN
                try simp only [Act.put]
                refine wpAnyH_done (by kernel_rfl) ?_ _
                clear hHeld
                exact leaf _ ⟨st3, R3.out⟩
              ·
                rw [if_pos (by rfl)]
                go_simp
                replace st := Lib.hid (st.out.below ((Below.refl _ _).alloc (Nat.le_refl _) (.cells (List.replicate 8 (.int .i64 0)).toArray 71)))
                refine hK.out _ _ (st.out.c) (fun hHeldN => ?_)
                clear hHeld hK K
                have hHeld := hHeldN
                clear hHeldN
                try simp only [Act.put, List.setIfInBounds_toArray, List.set_cons_zero, List.set_cons_succ]
                refine held_ready (i := 34) rfl (by kernel_rfl) (fun K hK => ?_)
                go_simp
                refine (edrop_no _ _ _ _ st.out.no).mono ?_
                rintro e _ ⟨rfl, rfl⟩
                refine hK.out _ _ (st.out.c) (fun hHeldN => ?_)
                clear hHeld hK K
                have hHeld := hHeldN
                clear hHeldN
                try simp only [Act.put, List.setIfInBounds_toArray, List.set_cons_zero, List.set_cons_succ]
                refine held_take (i := 35) (v := ?_) rfl (by kernel_rfl) (by kernel_rfl) (by kernel_rfl) (fun _ _ _ h => h) (Or.inl ⟨by rfl, ?_⟩) (by assumption) ?_
                rotate_left
                · intro w hSw; (try dsimp only at hSw); go_simp; try with_reducible rfl
                try simp only [Act.put, List.setIfInBounds_toArray, List.set_cons_zero, List.set_cons_succ]
                refine held_ready (i := 37) rfl (by kernel_rfl) (fun K hK => ?_)
                rw [if_pos (by rfl)]
                refine wp_store_e (.tmp 12) (.tmp 70) rfl w1.heap.size rfl rfl (List.replicate 8 (.int .i64 0)).toArray (heap_alloc_new _ _) rfl ?_
                intro w3 R3 U3
                have st3 := st.out.put U3.out eN
                refine hK.out _ _ (st3.c) (fun hHeldN => ?_)
                clear hHeld hK K
                have hHeld := hHeldN
                clear hHeldN
                try simp only [Act.put]
                refine wpAnyH_done (by kernel_rfl) ?_ _
                clear hHeld
                exact leaf _ ⟨st3, R3.out⟩
            ·
              rw [if_pos (by rfl)]
              go_simp
              replace st := Lib.hid (st.out.below ((Below.refl _ _).alloc (Nat.le_refl _) (.cells (List.replicate 8 (.int .i64 0)).toArray 71)))
              refine hK.out _ _ (st.out.c) (fun hHeldN => ?_)
              clear hHeld hK K
              have hHeld := hHeldN
              clear hHeldN
              try simp only [Act.put, List.setIfInBounds_toArray, List.set_cons_zero, List.set_cons_succ]
              refine held_ready (i := 29) rfl (by kernel_rfl) (fun K hK => ?_)
              go_simp
              refine (ehold_no _ _ _ (.inl rfl)).mono ?_
              rintro e _ ⟨rfl, rfl⟩
              refine hK.out _ _ (st.out.c) (fun hHeldN => ?_)
              clear hHeld hK K
              have hHeld := hHeldN
              clear hHeldN
              try simp only [Act.put, List.setIfInBounds_toArray, List.set_cons_zero, List.set_cons_succ]
              refine held_ready (i := 34) rfl (by kernel_rfl) (fun K hK => ?_)
              go_simp
              refine (edrop_no _ _ _ _ st.out.no).mono ?_
              rintro e _ ⟨rfl, rfl⟩
              refine hK.out _ _ (st.out.c) (fun hHeldN => ?_)
              clear hHeld hK K
              have hHeld := hHeldN
              clear hHeldN
              try simp only [Act.put, List.setIfInBounds_toArray, List.set_cons_zero, List.set_cons_succ]
              refine held_take (i := 35) (v := ?_) rfl (by kernel_rfl) (by kernel_rfl) (by kernel_rfl) (fun _ _ _ h => h) (Or.inl ⟨by rfl, ?_⟩) (by assumption) ?_
              rotate_left
              · intro w hSw; (try dsimp only at hSw); go_simp; try with_reducible rfl
              try simp only [Act.put, List.setIfInBounds_toArray, List.set_cons_zero, List.set_cons_succ]
              refine held_ready (i := 37) rfl (by kernel_rfl) (fun K hK => ?_)
              rw [if_pos (by rfl)]
              refine wp_store_e (.tmp 12) (.tmp 70) rfl w1.heap.size rfl rfl (List.replicate 8 (.int .i64 0)).toArray (heap_alloc_new _ _) rfl ?_
              intro w3 R3 U3
              have st3 := st.out.put U3.out eN
              refine hK.out _ _ (st3.c) (fun hHeldN => ?_)
              clear hHeld hK K
              have hHeld := hHeldN
              clear hHeldN
              try simp only [Act.put]
              refine wpAnyH_done (by kernel_rfl) ?_ _
              clear hHeld
              exact leaf _ ⟨st3, R3.out⟩
          ·
            rw [if_pos (by rfl)]
            go_simp
            replace st := Lib.hid (st.out.below ((Below.refl _ _).alloc (Nat.le_refl _) (.cells (List.replicate 8 (.int .i64 0)).toArray 71)))
            refine hK.out _ _ (st.out.c) (fun hHeldN => ?_)
            clear hHeld hK K
            have hHeld := hHeldN
            clear hHeldN
            try simp only [Act.put, List.setIfInBounds_toArray, List.set_cons_zero, List.set_cons_succ]
            refine held_ready (i := 25) rfl (by kernel_rfl) (fun K hK => ?_)
            go_simp
            refine (eclaim_no _ _ _ _ st.out.no).mono ?_
            rintro e _ ⟨rfl, rfl⟩
            refine hK.out _ _ (st.out.c) (fun hHeldN => ?_)
            clear hHeld hK K
            have hHeld := hHeldN
            clear hHeldN
            try simp only [Act.put, List.setIfInBounds_toArray, List.set_cons_zero, List.set_cons_succ]
            refine held_ready (i := 29) rfl (by kernel_rfl) (fun K hK => ?_)
            go_simp
            refine (ehold_no _ _ _ (.inl rfl)).mono ?_
            rintro e _ ⟨rfl, rfl⟩
            refine hK.out _ _ (st.out.c) (fun hHeldN => ?_)
            clear hHeld hK K
            have hHeld := hHeldN
            clear hHeldN
            try simp only [Act.put, List.setIfInBounds_toArray, List.set_cons_zero, List.set_cons_succ]
            refine held_ready (i := 34) rfl (by kernel_rfl) (fun K hK => ?_)
            go_simp
            refine (edrop_no _ _ _ _ st.out.no).mono ?_
            rintro e _ ⟨rfl, rfl⟩
            refine hK.out _ _ (st.out.c) (fun hHeldN => ?_)
            clear hHeld hK K
            have hHeld := hHeldN
            clear hHeldN
            try simp only [Act.put, List.setIfInBounds_toArray, List.set_cons_zero, List.set_cons_succ]
            refine held_take (i := 35) (v := ?_) rfl (by kernel_rfl) (by kernel_rfl) (by kernel_rfl) (fun _ _ _ h => h) (Or.inl ⟨by rfl, ?_⟩) (by assumption) ?_
            rotate_left
            · intro w hSw; (try dsimp only at hSw); go_simp; try with_reducible rfl
            try simp only [Act.put, List.setIfInBounds_toArray, List.set_cons_zero, List.set_cons_succ]
            refine held_ready (i := 37) rfl (by kernel_rfl) (fun K hK => ?_)
            rw [if_pos (by rfl)]
            refine wp_store_e (.tmp 12) (.tmp 70) rfl w1.heap.size rfl rfl (List.replicate 8 (.int .i64 0)).toArray (heap_alloc_new _ _) rfl ?_
            intro w3 R3 U3
            have st3 := st.out.put U3.out eN
            refine hK.out _ _ (st3.c) (fun hHeldN => ?_)
            clear hHeld hK K
            have hHeld := hHeldN
            clear hHeldN
            try simp only [Act.put]
            refine wpAnyH_done (by kernel_rfl) ?_ _
            clear hHeld
            exact leaf _ ⟨st3, R3.out⟩
        ·
          rw [if_pos (by rfl)]
          go_simp
          replace st := Lib.hid (st.out.below ((Below.refl _ _).alloc (Nat.le_refl _) (.cells (List.replicate 8 (.int .i64 0)).toArray 71)))
          refine hK.out _ _ (st.out.c) (fun hHeldN => ?_)
          clear hHeld hK K
          have hHeld := hHeldN
          clear hHeldN
          try simp only [Act.put, List.setIfInBounds_toArray, List.set_cons_zero, List.set_cons_succ]
          refine held_ready (i := 20) rfl (by kernel_rfl) (fun K hK => ?_)
          go_simp
          refine (eremove_no _ _ _ (.inl rfl)).mono ?_
          rintro e _ ⟨rfl, rfl⟩
          refine hK.out _ _ (st.out.c) (fun hHeldN => ?_)
          clear hHeld hK K
          have hHeld := hHeldN
          clear hHeldN
          try simp only [Act.put, List.setIfInBounds_toArray, List.set_cons_zero, List.set_cons_succ]
          refine held_ready (i := 25) rfl (by kernel_rfl) (fun K hK => ?_)
          go_simp
          refine (eclaim_no _ _ _ _ st.out.no).mono ?_
          rintro e _ ⟨rfl, rfl⟩
          refine hK.out _ _ (st.out.c) (fun hHeldN => ?_)
          clear hHeld hK K
          have hHeld := hHeldN
          clear hHeldN
          try simp only [Act.put, List.setIfInBounds_toArray, List.set_cons_zero, List.set_cons_succ]
          refine held_ready (i := 29) rfl (by kernel_rfl) (fun K hK => ?_)
          go_simp
          refine (ehold_no _ _ _ (.inl rfl)).mono ?_
          rintro e _ ⟨rfl, rfl⟩
          refine hK.out _ _ (st.out.c) (fun hHeldN => ?_)
          clear hHeld hK K
          have hHeld := hHeldN
          clear hHeldN
          try simp only [Act.put, List.setIfInBounds_toArray, List.set_cons_zero, List.set_cons_succ]
          refine held_ready (i := 34) rfl (by kernel_rfl) (fun K hK => ?_)
          go_simp
          refine (edrop_no _ _ _ _ st.out.no).mono ?_
          rintro e _ ⟨rfl, rfl⟩
          refine hK.out _ _ (st.out.c) (fun hHeldN => ?_)
          clear hHeld hK K
          have hHeld := hHeldN
          clear hHeldN
          try simp only [Act.put, List.setIfInBounds_toArray, List.set_cons_zero, List.set_cons_succ]
          refine held_take (i := 35) (v := ?_) rfl (by kernel_rfl) (by kernel_rfl) (by kernel_rfl) (fun _ _ _ h => h) (Or.inl ⟨by rfl, ?_⟩) (by assumption) ?_
          rotate_left
          · intro w hSw; (try dsimp only at hSw); go_simp; try with_reducible rfl
          try simp only [Act.put, List.setIfInBounds_toArray, List.set_cons_zero, List.set_cons_succ]
          refine held_ready (i := 37) rfl (by kernel_rfl) (fun K hK => ?_)
          rw [if_pos (by rfl)]
          refine wp_store_e (.tmp 12) (.tmp 70) rfl w1.heap.size rfl rfl (List.replicate 8 (.int .i64 0)).toArray (heap_alloc_new _ _) rfl ?_
          intro w3 R3 U3
          have st3 := st.out.put U3.out eN
          refine hK.out _ _ (st3.c) (fun hHeldN => ?_)
          clear hHeld hK K
          have hHeld := hHeldN
          clear hHeldN
          try simp only [Act.put]
          refine wpAnyH_done (by kernel_rfl) ?_ _
          clear hHeld
          exact leaf _ ⟨st3, R3.out⟩
      ·
        rw [if_pos (by rfl)]
        go_simp
        replace st := Lib.hid (st.out.below ((Below.refl _ _).alloc (Nat.le_refl _) (.cells (List.replicate 8 (.int .i64 0)).toArray 71)))
        refine hK.out _ _ (st.out.c) (fun hHeldN => ?_)
        clear hHeld hK K
        have hHeld := hHeldN
        clear hHeldN
        try simp only [Act.put, List.setIfInBounds_toArray, List.set_cons_zero, List.set_cons_succ]
        refine held_ready (i := 16) rfl (by kernel_rfl) (fun K hK => ?_)
        go_simp
        refine (eresize_no _ _ _ _ _ st.out.no).mono ?_
        rintro e _ ⟨rfl, rfl⟩
        refine hK.out _ _ (st.out.c) (fun hHeldN => ?_)
        clear hHeld hK K
        have hHeld := hHeldN
        clear hHeldN
        try simp only [Act.put, List.setIfInBounds_toArray, List.set_cons_zero, List.set_cons_succ]
        refine held_ready (i := 20) rfl (by kernel_rfl) (fun K hK => ?_)
        go_simp
        refine (eremove_no _ _ _ (.inl rfl)).mono ?_
        rintro e _ ⟨rfl, rfl⟩
        refine hK.out _ _ (st.out.c) (fun hHeldN => ?_)
        clear hHeld hK K
        have hHeld := hHeldN
        clear hHeldN
        try simp only [Act.put, List.setIfInBounds_toArray, List.set_cons_zero, List.set_cons_succ]
        refine held_ready (i := 25) rfl (by kernel_rfl) (fun K hK => ?_)
        go_simp
        refine (eclaim_no _ _ _ _ st.out.no).mono ?_
        rintro e _ ⟨rfl, rfl⟩
        refine hK.out _ _ (st.out.c) (fun hHeldN => ?_)
        clear hHeld hK K
        have hHeld := hHeldN
        clear hHeldN
        try simp only [Act.put, List.setIfInBounds_toArray, List.set_cons_zero, List.set_cons_succ]
        refine held_ready (i := 29) rfl (by kernel_rfl) (fun K hK => ?_)
        go_simp
        refine (ehold_no _ _ _ (.inl rfl)).mono ?_
        rintro e _ ⟨rfl, rfl⟩
        refine hK.out _ _ (st.out.c) (fun hHeldN => ?_)
        clear hHeld hK K
        have hHeld := hHeldN
        clear hHeldN
        try simp only [Act.put, List.setIfInBounds_toArray, List.set_cons_zero, List.set_cons_succ]
        refine held_ready (i := 34) rfl (by kernel_rfl) (fun K hK => ?_)
        go_simp
        refine (edrop_no _ _ _ _ st.out.no).mono ?_
        rintro e _ ⟨rfl, rfl⟩
        refine hK.out _ _ (st.out.c) (fun hHeldN => ?_)
        clear hHeld hK K
        have hHeld := hHeldN
        clear hHeldN
        try simp only [Act.put, List.setIfInBounds_toArray, List.set_cons_zero, List.set_cons_succ]
        refine held_take (i := 35) (v := ?_) rfl (by kernel_rfl) (by kernel_rfl) (by kernel_rfl) (fun _ _ _ h => h) (Or.inl ⟨by rfl, ?_⟩) (by assumption) ?_
        rotate_left
        · intro w hSw; (try dsimp only at hSw); go_simp; try with_reducible rfl
        try simp only [Act.put, List.setIfInBounds_toArray, List.set_cons_zero, List.set_cons_succ]
        refine held_ready (i := 37) rfl (by kernel_rfl) (fun K hK => ?_)
        rw [if_pos (by rfl)]
        refine wp_store_e (.tmp 12) (.tmp 70) rfl w1.heap.size rfl rfl (List.replicate 8 (.int .i64 0)).toArray (heap_alloc_new _ _) rfl ?_
        intro w3 R3 U3
        have st3 := st.out.put U3.out eN
        refine hK.out _ _ (st3.c) (fun hHeldN => ?_)
        clear hHeld hK K
        have hHeld := hHeldN
        clear hHeldN
        try simp only [Act.put]
        refine wpAnyH_done (by kernel_rfl) ?_ _
        clear hHeld
        exact leaf _ ⟨st3, R3.out⟩
    ·
      rw [if_pos (by rfl)]
      go_simp
      replace st := Lib.hid (st.out.below ((Below.refl _ _).alloc (Nat.le_refl _) (.cells (List.replicate 8 (.int .i64 0)).toArray 71)))
      refine hK.out _ _ (st.out.c) (fun hHeldN => ?_)
      clear hHeld hK K
      have hHeld := hHeldN
      clear hHeldN
      try simp only [Act.put, List.setIfInBounds_toArray, List.set_cons_zero, List.set_cons_succ]
      refine held_ready (i := 9) rfl (by kernel_rfl) (fun K hK => ?_)
      go_simp
      refine (eadmit_no _ _ _ _ _ (.inl rfl)).mono ?_
      rintro e _ ⟨rfl, rfl⟩
      refine hK.out _ _ (st.out.c) (fun hHeldN => ?_)
      clear hHeld hK K
      have hHeld := hHeldN
      clear hHeldN
      try simp only [Act.put, List.setIfInBounds_toArray, List.set_cons_zero, List.set_cons_succ]
      refine held_ready (i := 16) rfl (by kernel_rfl) (fun K hK => ?_)
      go_simp
      refine (eresize_no _ _ _ _ _ st.out.no).mono ?_
      rintro e _ ⟨rfl, rfl⟩
      refine hK.out _ _ (st.out.c) (fun hHeldN => ?_)
      clear hHeld hK K
      have hHeld := hHeldN
      clear hHeldN
      try simp only [Act.put, List.setIfInBounds_toArray, List.set_cons_zero, List.set_cons_succ]
      refine held_ready (i := 20) rfl (by kernel_rfl) (fun K hK => ?_)
      go_simp
      refine (eremove_no _ _ _ (.inl rfl)).mono ?_
      rintro e _ ⟨rfl, rfl⟩
      refine hK.out _ _ (st.out.c) (fun hHeldN => ?_)
      clear hHeld hK K
      have hHeld := hHeldN
      clear hHeldN
      try simp only [Act.put, List.setIfInBounds_toArray, List.set_cons_zero, List.set_cons_succ]
      refine held_ready (i := 25) rfl (by kernel_rfl) (fun K hK => ?_)
      go_simp
      refine (eclaim_no _ _ _ _ st.out.no).mono ?_
      rintro e _ ⟨rfl, rfl⟩
      refine hK.out _ _ (st.out.c) (fun hHeldN => ?_)
      clear hHeld hK K
      have hHeld := hHeldN
      clear hHeldN
      try simp only [Act.put, List.setIfInBounds_toArray, List.set_cons_zero, List.set_cons_succ]
      refine held_ready (i := 29) rfl (by kernel_rfl) (fun K hK => ?_)
      go_simp
      refine (ehold_no _ _ _ (.inl rfl)).mono ?_
      rintro e _ ⟨rfl, rfl⟩
      refine hK.out _ _ (st.out.c) (fun hHeldN => ?_)
      clear hHeld hK K
      have hHeld := hHeldN
      clear hHeldN
      try simp only [Act.put, List.setIfInBounds_toArray, List.set_cons_zero, List.set_cons_succ]
      refine held_ready (i := 34) rfl (by kernel_rfl) (fun K hK => ?_)
      go_simp
      refine (edrop_no _ _ _ _ st.out.no).mono ?_
      rintro e _ ⟨rfl, rfl⟩
      refine hK.out _ _ (st.out.c) (fun hHeldN => ?_)
      clear hHeld hK K
      have hHeld := hHeldN
      clear hHeldN
      try simp only [Act.put, List.setIfInBounds_toArray, List.set_cons_zero, List.set_cons_succ]
      refine held_take (i := 35) (v := ?_) rfl (by kernel_rfl) (by kernel_rfl) (by kernel_rfl) (fun _ _ _ h => h) (Or.inl ⟨by rfl, ?_⟩) (by assumption) ?_
      rotate_left
      · intro w hSw; (try dsimp only at hSw); go_simp; try with_reducible rfl
      try simp only [Act.put, List.setIfInBounds_toArray, List.set_cons_zero, List.set_cons_succ]
      refine held_ready (i := 37) rfl (by kernel_rfl) (fun K hK => ?_)
      rw [if_pos (by rfl)]
      refine wp_store_e (.tmp 12) (.tmp 70) rfl w1.heap.size rfl rfl (List.replicate 8 (.int .i64 0)).toArray (heap_alloc_new _ _) rfl ?_
      intro w3 R3 U3
      have st3 := st.out.put U3.out eN
      refine hK.out _ _ (st3.c) (fun hHeldN => ?_)
      clear hHeld hK K
      have hHeld := hHeldN
      clear hHeldN
      try simp only [Act.put]
      refine wpAnyH_done (by kernel_rfl) ?_ _
      clear hHeld
      exact leaf _ ⟨st3, R3.out⟩
  case leaf =>
    rintro w3 ⟨st3, R3⟩
    generalize w1.heap.size = g at *
    clear st
    go_wp2_with fail
    go_loopw [13] (fun iv wr => ∃ i : Nat, i ≤ 8 ∧ iv = .int .i64 (i : Int) ∧ Hid (Nob w wr t a b x) ∧ Hid (wr.heap[g]? = some (.cells six8.toArray 71 (0, 0)))) (fun iv _ => 8 - (intOf iv).toNat)
    case atStart => exact ⟨0, by decide, rfl, st3, R3⟩
    case round =>
      clear st3 R3
      obtain ⟨i, hi, rfl, st, R⟩ := hrel
      by_cases hlt : i < 8
      · have d1 : decide ((i : Int) < 8) = true := decide_eq_true (by omega)
        have d2 : 0 ≤ (i : Int) ∧ (i : Int) < 8 := by omega
        have ci : wr.cell? ⟨g, i, none⟩ = some (.int .i64 6) := (cell_of_row _ _ _ _ _ _ R.out).trans (by simp only [six8, List.getElem?_toArray, List.getElem?_replicate, if_pos hlt])
        go_wp2_with fail
        go_roundw
        case rel => exact ⟨i + 1, by omega, by go_num, st, R⟩
        case measure => simp [intOf]; omega
      · obtain rfl : i = 8 := by omega
        simp only [show ((8 : Nat) : Int) = 8 from rfl]
        clear hi hlt R
        have al := Lib.hid (alive_any17 wr.drew st.out.drew.tab)
        go_wp2_with fail
        refine wp_region_held_drew (S := (fun w' => w'.cell? ⟨w.heap.size, 4, none⟩ = some (.int .u32 (x : Int)))) (by kernel_rfl) (st.out.drew.c.2.2.2) (fun hHeld => ?_)
        refine held_ready (i := 0) rfl (by kernel_rfl) (fun K hK => ?_)
        go_simp
        refine al.out.mono ?_
        rintro e w4 ⟨rfl, B4⟩
        have s4 := st.out.drew.below B4
        have n4 := s4.no
        clear al st B4
        replace s4 := Lib.hid s4
        replace n4 := Lib.hid n4
        refine hK.out _ _ (s4.out.c.2.2.2) (fun hHeldN => ?_)
        clear hHeld hK K
        have hHeld := hHeldN
        clear hHeldN
        try simp only [Act.put, List.setIfInBounds_toArray, List.set_cons_zero, List.set_cons_succ]
        refine held_take (i := 1) (v := ?_) rfl (by kernel_rfl) (by kernel_rfl) (by kernel_rfl) (fun _ _ _ h => h) (Or.inl ⟨by rfl, ?_⟩) (by assumption) ?_
        rotate_left
        · intro w hSw; (try dsimp only at hSw); go_simp; try with_reducible rfl
        try simp only [Act.put, List.setIfInBounds_toArray, List.set_cons_zero, List.set_cons_succ]
        refine held_take (i := 2) (v := ?_) rfl (by kernel_rfl) (by kernel_rfl) (by kernel_rfl) (fun _ _ _ h => h) (Or.inl ⟨by rfl, ?_⟩) (by assumption) ?_
        rotate_left
        · intro w hSw; (try dsimp only at hSw); go_simp; try with_reducible rfl
        try simp only [Act.put, List.setIfInBounds_toArray, List.set_cons_zero, List.set_cons_succ]
        refine held_take (i := 3) (v := ?_) rfl (by kernel_rfl) (by kernel_rfl) (by kernel_rfl) (fun _ _ _ h => h) (Or.inl ⟨by rfl, ?_⟩) (by assumption) ?_
        rotate_left
        · intro w hSw; (try dsimp only at hSw); go_simp; try with_reducible rfl
        try simp only [Act.put, List.setIfInBounds_toArray, List.set_cons_zero, List.set_cons_succ]
        refine held_take (i := 4) (v := ?_) rfl (by kernel_rfl) (by kernel_rfl) (by kernel_rfl) (fun _ _ _ h => h) (Or.inl ⟨by rfl, ?_⟩) (by assumption) ?_
        rotate_left
        · intro w hSw; (try dsimp only at hSw); go_simp; try with_reducible rfl
        try simp only [Act.put, List.setIfInBounds_toArray, List.set_cons_zero, List.set_cons_succ]
        refine held_take (i := 5) (v := ?_) rfl (by kernel_rfl) (by kernel_rfl) (by kernel_rfl) (fun _ _ _ h => h) (Or.inl ⟨by rfl, ?_⟩) (by assumption) ?_
        rotate_left
        · intro w hSw; (try dsimp only at hSw); go_simp; try with_reducible rfl
        try simp only [Act.put, List.setIfInBounds_toArray, List.set_cons_zero, List.set_cons_succ]
        refine held_take (i := 6) (v := ?_) rfl (by kernel_rfl) (by kernel_rfl) (by kernel_rfl) (fun _ _ _ h => h) (Or.inl ⟨by rfl, ?_⟩) (by assumption) ?_
        rotate_left
        · intro w hSw; (try dsimp only at hSw); go_simp; try with_reducible rfl
        try simp only [Act.put, List.setIfInBounds_toArray, List.set_cons_zero, List.set_cons_succ]
        refine held_take (i := 10) (v := ?_) rfl (by kernel_rfl) (by kernel_rfl) (by kernel_rfl) (fun _ _ _ h => h) (Or.inl ⟨by rfl, ?_⟩) (by assumption) ?_
        rotate_left
        · intro w hSw; (try dsimp only at hSw); go_simp; try with_reducible rfl
        try simp only [Act.put, List.setIfInBounds_toArray, List.set_cons_zero, List.set_cons_succ]
        refine held_take (i := 15) (v := ?_) rfl (by kernel_rfl) (by kernel_rfl) (by kernel_rfl) (fun _ _ _ h => h) (Or.inl ⟨by rfl, ?_⟩) (by assumption) ?_
        rotate_left
        · intro w hSw; (try dsimp only at hSw); go_simp; try with_reducible rfl
        try simp only [Act.put, List.setIfInBounds_toArray, List.set_cons_zero, List.set_cons_succ]
        refine held_take (i := 18) (v := ?_) rfl (by kernel_rfl) (by kernel_rfl) (by kernel_rfl) (fun _ _ _ h => h) (Or.inl ⟨by rfl, ?_⟩) (by assumption) ?_
        rotate_left
        · intro w hSw; (try dsimp only at hSw); go_simp; try with_reducible rfl
        try simp only [Act.put, List.setIfInBounds_toArray, List.set_cons_zero, List.set_cons_succ]
        refine held_take (i := 19) (v := ?_) rfl (by kernel_rfl) (by kernel_rfl) (by kernel_rfl) (fun _ _ _ h => h) (Or.inl ⟨by rfl, ?_⟩) (by assumption) ?_
        rotate_left
        · intro w hSw; (try dsimp only at hSw); go_simp; try with_reducible rfl
        try simp only [Act.put, List.setIfInBounds_toArray, List.set_cons_zero, List.set_cons_succ]
        refine held_ready (i := 7) rfl (by kernel_rfl) (fun K hK => ?_)
        go_simp
        refine (eslack_no _ _ (.inl rfl)).mono ?_
        rintro e _ ⟨rfl, rfl⟩
        refine hK.out _ _ (s4.out.c.2.2.2) (fun hHeldN => ?_)
        clear hHeld hK K
        have hHeld := hHeldN
        clear hHeldN
        try simp only [Act.put, List.setIfInBounds_toArray, List.set_cons_zero, List.set_cons_succ]
        refine held_ready (i := 8) rfl (by kernel_rfl) (fun K hK => ?_)
        go_simp
        refine (eslack_no _ _ n4.out).mono ?_
        rintro e _ ⟨rfl, rfl⟩
        refine hK.out _ _ (s4.out.c.2.2.2) (fun hHeldN => ?_)
        clear hHeld hK K
        have hHeld := hHeldN
        clear hHeldN
        try simp only [Act.put, List.setIfInBounds_toArray, List.set_cons_zero, List.set_cons_succ]
        refine held_take (i := 9) (v := ?_) rfl (by kernel_rfl) (by kernel_rfl) (by kernel_rfl) (fun _ _ _ h => h) (Or.inl ⟨by rfl, ?_⟩) (by assumption) ?_
        rotate_left
        · intro w hSw; (try dsimp only at hSw); go_simp; try with_reducible rfl
        try simp only [Act.put, List.setIfInBounds_toArray, List.set_cons_zero, List.set_cons_succ]
        refine held_ready (i := 11) rfl (by kernel_rfl) (fun K hK => ?_)
        go_simp
        refine (esize_no _ _ (.inl rfl)).mono ?_
        rintro e _ ⟨rfl, rfl⟩
        refine hK.out _ _ (s4.out.c.2.2.2) (fun hHeldN => ?_)
        clear hHeld hK K
        have hHeld := hHeldN
        clear hHeldN
        try simp only [Act.put, List.setIfInBounds_toArray, List.set_cons_zero, List.set_cons_succ]
        refine held_take (i := 12) (v := ?_) rfl (by kernel_rfl) (by kernel_rfl) (by kernel_rfl) (fun _ _ _ h => h) (Or.inl ⟨by rfl, ?_⟩) (by assumption) ?_
        rotate_left
        · intro w hSw; (try dsimp only at hSw); go_simp; try with_reducible rfl
        try simp only [Act.put, List.setIfInBounds_toArray, List.set_cons_zero, List.set_cons_succ]
        refine held_ready (i := 13) rfl (by kernel_rfl) (fun K hK => ?_)
        go_simp
        refine (esize_no _ _ n4.out).mono ?_
        rintro e _ ⟨rfl, rfl⟩
        refine hK.out _ _ (s4.out.c.2.2.2) (fun hHeldN => ?_)
        clear hHeld hK K
        have hHeld := hHeldN
        clear hHeldN
        try simp only [Act.put, List.setIfInBounds_toArray, List.set_cons_zero, List.set_cons_succ]
        refine held_take (i := 14) (v := ?_) rfl (by kernel_rfl) (by kernel_rfl) (by kernel_rfl) (fun _ _ _ h => h) (Or.inl ⟨by rfl, ?_⟩) (by assumption) ?_
        rotate_left
        · intro w hSw; (try dsimp only at hSw); go_simp; try with_reducible rfl
        try simp only [Act.put, List.setIfInBounds_toArray, List.set_cons_zero, List.set_cons_succ]
        refine held_ready (i := 16) rfl (by kernel_rfl) (fun K hK => ?_)
        go_simp
        refine (echarge_no _ _ _ (.inl rfl)).mono ?_
        rintro e _ ⟨rfl, rfl⟩
        refine hK.out _ _ (s4.out.c.2.2.2) (fun hHeldN => ?_)
        clear hHeld hK K
        have hHeld := hHeldN
        clear hHeldN
        try simp only [Act.put, List.setIfInBounds_toArray, List.set_cons_zero, List.set_cons_succ]
        refine held_take (i := 17) (v := ?_) rfl (by kernel_rfl) (by kernel_rfl) (by kernel_rfl) (fun _ _ _ h => h) (Or.inl ⟨by rfl, ?_⟩) (by assumption) ?_
        rotate_left
        · intro w hSw; (try dsimp only at hSw); go_simp; try with_reducible rfl
        try simp only [Act.put, List.setIfInBounds_toArray, List.set_cons_zero, List.set_cons_succ]
        refine held_ready (i := 20) rfl (by kernel_rfl) (fun K hK => ?_)
        go_simp
        refine (etimes_no _ _ _ n4.out).mono ?_
        rintro e _ ⟨rfl, rfl⟩
        refine hK.out _ _ (s4.out.c.2.2.2) (fun hHeldN => ?_)
        clear hHeld hK K
        have hHeld := hHeldN
        clear hHeldN
        try simp only [Act.put, List.setIfInBounds_toArray, List.set_cons_zero, List.set_cons_succ]
        refine held_take (i := 21) (v := ?_) rfl (by kernel_rfl) (by kernel_rfl) (by kernel_rfl) (fun _ _ _ h => h) (Or.inl ⟨by rfl, ?_⟩) (by assumption) ?_
        rotate_left
        · intro w hSw; (try dsimp only at hSw); go_simp; try with_reducible rfl
        try simp only [Act.put, List.setIfInBounds_toArray, List.set_cons_zero, List.set_cons_succ]
        refine held_take (i := 22) (v := ?_) rfl (by kernel_rfl) (by kernel_rfl) (by kernel_rfl) (fun _ _ _ h => h) (Or.inl ⟨by rfl, ?_⟩) (by assumption) ?_
        rotate_left
        · intro w hSw; (try dsimp only at hSw); go_simp; try with_reducible rfl
        try simp only [Act.put, List.setIfInBounds_toArray, List.set_cons_zero, List.set_cons_succ]
        refine held_take (i := 23) (v := ?_) rfl (by kernel_rfl) (by kernel_rfl) (by kernel_rfl) (fun _ _ _ h => h) (Or.inl ⟨by rfl, ?_⟩) (by assumption) ?_
        rotate_left
        · intro w hSw; (try dsimp only at hSw); go_simp; try with_reducible rfl
        try simp only [Act.put, List.setIfInBounds_toArray, List.set_cons_zero, List.set_cons_succ]
        refine held_take (i := 24) (v := ?_) rfl (by kernel_rfl) (by kernel_rfl) (by kernel_rfl) (fun _ _ _ h => h) (Or.inl ⟨by rfl, ?_⟩) (by assumption) ?_
        rotate_left
        · intro w hSw; (try dsimp only at hSw); go_simp; try with_reducible rfl
        try simp only [Act.put, List.setIfInBounds_toArray, List.set_cons_zero, List.set_cons_succ]
        refine wpAnyH_done (by kernel_rfl) ?_ _
        clear hHeld
        go_wp2_with fail
        go_ret
        exact ⟨rfl, s4.out.low⟩
end Go.Proofs.YtjhfoddhpmmjoaaDoor
