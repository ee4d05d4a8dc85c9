/-
  Law HashlogNobody: a log that is nil, or that no call made, tells sums, and has nothing. Condition: the text is not too long.
-/
import Derived.Test.YtjbmdeppoobccaaHashAlive
namespace Go.Proofs.Ytjbmdeppoobccaa
open Go.RowKit Go.Maps

/-- What stays while the law asks. -/
structure NobSt (w : World) (g5 g6 z : Nat) (t : List Nat) : Prop where
  x : RowB w g5 27 (sumOf t)
  y : RowB w g6 27 (sumOf t)
  c : w.cell? ⟨z, 0, none⟩ = some (.map none)
theorem NobSt.below {w w' : World} {g5 g6 z : Nat} {t : List Nat} (h : NobSt w g5 g6 z t) (hB : Below w.heap.size w w') : NobSt w' g5 g6 z t :=
  ⟨h.x.below hB h.x.lt, h.y.below hB h.y.lt, (hB.cell (block_lt_of_cell h.c)).trans h.c⟩

set_option maxRecDepth 100000 in
set_option maxHeartbeats 4000000 in
theorem hashlogNobody_any (w : World) (v : Value) (t : List Nat) (ht : TextAt w v t) (hn : t.length < 9223372036854775808) :
    Calls Try.prog 13 #[v] w fun e w' => e = .returned (.bool true) ∧ Below w.heap.size w w' := by
  obtain ⟨ao, cap, rfl, _⟩ := ht.ex
  obtain ⟨m, em⟩ : ∃ m, m = t.length := ⟨_, rfl⟩
  rw [← em] at ht hn ⊢
  by_cases h3 : 300 < m
  · have d : decide ((m : Int) > 300) = true := decide_eq_true (by omega)
    replace ht := Lib.hid ht
    replace em := Lib.hid em
    go_enter Try.func13, Try.ntmps13
    go_wp2_with fail
    refine (alive08 w).mono ?_
    rintro e w2 ⟨rfl, B2⟩
    go_wp2_with fail
    go_ret
    exact ⟨rfl, B2⟩
  · have d : decide ((m : Int) > 300) = false := decide_eq_false (by omega)
    have hl : t.length < 1000000000 := by omega
    have is := infoSum t
    have zs := zeroSum t
    have Bz : Below w.heap.size w (w.alloc (.cells #[.map none, .int .i64 0, .slice none 0 0, .slice none 0 0, .bool false] 74)) := (Below.refl _ _).alloc (Nat.le_refl _) _
    have cz : (w.alloc (.cells #[.map none, .int .i64 0, .slice none 0 0, .slice none 0 0, .bool false] 74)).cell? ⟨w.heap.size, 0, none⟩ = some (.map none) := by
      rw [cell_of_row _ _ _ _ _ _ (heap_alloc_new _ _)]; rfl
    have cs := Lib.hid (lsum_not (w := w.alloc (.cells #[.map none, .int .i64 0, .slice none 0 0, .slice none 0 0, .bool false] 74)) (.inl rfl) _ t (ht.below Bz) hl)
    replace ht := Lib.hid ht
    replace em := Lib.hid em
    replace hl := Lib.hid hl
    replace Bz := Lib.hid Bz
    replace cz := Lib.hid cz
    go_enter Try.func13, Try.ntmps13
    go_wp2_with fail
    refine cs.out.mono ?_
    clear cs
    rintro e w1 ⟨rfl, B1⟩
    have low1 := Bz.out.trans (B1.mono Bz.out.size)
    have c1 := (B1.cell (block_lt_of_cell cz.out)).trans cz.out
    have cs := Lib.hid (lsum_not (w := w1) (.inr ⟨_, rfl, c1⟩) _ t (ht.out.below low1) hl.out)
    replace B1 := Lib.hid B1
    replace low1 := Lib.hid low1
    replace c1 := Lib.hid c1
    go_wp2_with fail
    refine cs.out.mono ?_
    clear cs
    rintro e w2 ⟨rfl, B2⟩
    have low2 := low1.out.trans (B2.mono low1.out.size)
    have c2 := (B2.cell (block_lt_of_cell c1.out)).trans c1.out
    replace B2 := Lib.hid B2
    replace low2 := Lib.hid low2
    replace c2 := Lib.hid c2
    have z5 : RowB ((w2.alloc (.cells (u8s (List.replicate 32 0)) 27)).alloc (.cells (u8s (List.replicate 32 0)) 27)) w2.heap.size 27 (List.replicate 32 0) := RowB.alloc (show RowB (w2.alloc (.cells (u8s (List.replicate 32 0)) 27)) w2.heap.size 27 (List.replicate 32 0) from heap_alloc_new _ _) _
    have z6 : RowB ((w2.alloc (.cells (u8s (List.replicate 32 0)) 27)).alloc (.cells (u8s (List.replicate 32 0)) 27)) (w2.heap.size + 1) 27 (List.replicate 32 0) := by
      have h := heap_alloc_new (w2.alloc (.cells (u8s (List.replicate 32 0)) 27)) (.cells (u8s (List.replicate 32 0)) 27)
      rw [World.size_alloc] at h
      exact h
    have BA : Below w2.heap.size w2 ((w2.alloc (.cells (u8s (List.replicate 32 0)) 27)).alloc (.cells (u8s (List.replicate 32 0)) 27)) := ((Below.refl _ _).alloc (Nat.le_refl _) _).alloc (by simp) _
    replace z5 := Lib.hid z5
    replace z6 := Lib.hid z6
    replace BA := Lib.hid BA
    go_wp2_with (first
      | (refine wpList_store_s (by rfl) 27 (.tmp 5) (.tmp 19) rfl w2.heap.size (sumOf t) rfl rfl 27 _ z5.out is zs ?_; intro w3 R3 U3
         have z63 := Lib.hid (RowB.other z6.out (U3.out.block _ z6.out.lt (by omega))))
      | (refine wpList_store_s (by rfl) 27 (.tmp 6) (.tmp 21) rfl (w2.heap.size + 1) (sumOf t) rfl rfl 27 _ z63.out is zs ?_; intro w4 R4 U4))
    have R34 : RowB w4 w2.heap.size 27 (sumOf t) := RowB.other R3.out (U4.out.block _ R3.out.lt (by omega))
    have low4 : Below w.heap.size w w4 := by
      have hs := low2.out.size
      have h2 : Below w.heap.size w2 w3 := (BA.out.mono hs).trans (U3.out.below (fun k hk e => by omega) (Nat.le_trans hs BA.out.size))
      have h3 : Below w.heap.size w3 w4 := U4.out.below (fun k hk e => by omega) (Nat.le_trans hs h2.size)
      exact (low2.out.trans h2).trans h3
    have c4 : w4.cell? ⟨w.heap.size, 0, none⟩ = some (.map none) := by
      have hlt := block_lt_of_cell c2.out
      simp only at hlt
      have e1 := BA.out.cell (p := ⟨w.heap.size, 0, none⟩) hlt
      have hA := BA.out.size
      have e2 := U3.out.cell (p := ⟨w.heap.size, 0, none⟩) (Nat.lt_of_lt_of_le hlt hA) (by simp only; omega)
      have e3 := U4.out.cell (p := ⟨w.heap.size, 0, none⟩) (Nat.lt_of_lt_of_le (Nat.lt_of_lt_of_le hlt hA) U3.out.size) (by simp only; omega)
      exact e3.trans (e2.trans (e1.trans c2.out))
    have N4 : NobSt w4 w2.heap.size (w2.heap.size + 1) w.heap.size t := ⟨R34, R4.out, c4⟩
    have s2 := low2.out.size
    have n4 : LogNot w4 (.pointer (some ⟨w.heap.size, 0, none⟩)) := .inr ⟨_, rfl, c4⟩
    clear z5 z6 BA z63 R3 U3 U4 R34 low2 c2 B2 low1 c1 B1 R4 c4
    generalize w2.heap.size = g at *
    replace low4 := Lib.hid low4
    replace N4 := Lib.hid N4
    replace n4 := Lib.hid n4
    have ck := Lib.hid (lclash_not (w := w4) (v := .pointer none) (.inl rfl))
    have ck2 := Lib.hid (lclash_not n4.out)
    refine ck.out.mono ?_
    rintro e w5 ⟨rfl, rfl⟩
    go_wp2_with fail
    refine ck2.out.mono ?_
    rintro e w5 ⟨rfl, rfl⟩
    go_wp2_with fail
    clear ck ck2
    have q1 := fun (x : World) => run_equal_arr (P := Try.prog) Try.underlying27 Try.underlying5 (by kernel_rfl) (sumOf_lt t) (sumOf_lt t) (length_sumOf _) (length_sumOf _) x
    rw [beq_self_eq_true] at q1
    have N5 : NobSt w4.drew g (g + 1) w.heap.size t := N4.out.below ((Below.refl _ _).drew)
    have low5 : Below w.heap.size w w4.drew := low4.out.drew
    have S5 : ∀ w', NobSt w' g (g + 1) w.heap.size t → w'.heap[g]? = some (.cells (u8s (sumOf t)) 27 (0, 0)) := fun w' h => h.x
    have S6 : ∀ w', NobSt w' g (g + 1) w.heap.size t → w'.heap[g + 1]? = some (.cells (u8s (sumOf t)) 27 (0, 0)) := fun w' h => h.y
    replace S5 := Lib.hid S5
    replace S6 := Lib.hid S6
    replace low5 := Lib.hid low5
    replace N5 := Lib.hid N5
    refine wp_region_held_drew (S := (fun w' => NobSt w' g (g + 1) w.heap.size t)) (by kernel_rfl) (N5.out) (fun hHeld => ?_)
    refine held_ready (i := 0) rfl (by kernel_rfl) (fun K hK => ?_)
    go_simp
    refine (alive08 _).mono ?_; rintro e w7 ⟨rfl, B7⟩
    have N7 := N5.out.below B7
    have low7 := low5.out.trans (B7.mono low5.out.size)
    replace B7 := Lib.hid B7
    replace N7 := Lib.hid N7
    replace low7 := Lib.hid low7
    refine hK.out _ _ (N7.out) (fun hHeldN => ?_)
    clear hHeld hK K
    have hHeld := hHeldN
    clear hHeldN
    try simp only [Act.put, List.setIfInBounds_toArray, List.set_cons_zero, List.set_cons_succ]
    refine held_take (i := 1) (v := ?_) rfl (by kernel_rfl) (by kernel_rfl) (by kernel_rfl) (fun _ _ _ h => h) (Or.inl ⟨by rfl, ?_⟩) (by assumption) ?_
    rotate_left
    · intro w hSw; (try dsimp only at hSw); go_simp; try with_reducible rfl
    try simp only [Act.put, List.setIfInBounds_toArray, List.set_cons_zero, List.set_cons_succ]
    refine held_take (i := 2) (v := _) rfl (by kernel_rfl) (by kernel_rfl) (by kernel_rfl) (fun _ _ _ h => h) (yieldsIf_row (by rfl) rfl rfl Try.underlying27 is S5.out) (by assumption) ?_
    try simp only [Act.put, List.setIfInBounds_toArray, List.set_cons_zero, List.set_cons_succ]
    refine held_take (i := 3) (v := _) rfl (by kernel_rfl) (by kernel_rfl) (by kernel_rfl) (fun _ _ _ h => h) (yieldsIf_row (by rfl) rfl rfl Try.underlying27 is S6.out) (by assumption) ?_
    try simp only [Act.put, List.setIfInBounds_toArray, List.set_cons_zero, List.set_cons_succ]
    refine held_take (i := 4) (v := ?_) rfl (by kernel_rfl) (by kernel_rfl) (by kernel_rfl) (fun _ _ _ h => h) (Or.inl ⟨by rfl, ?_⟩) (by assumption) ?_
    rotate_left
    · intro w hSw; (try dsimp only at hSw); go_simp; try with_reducible rfl
    try simp only [Act.put, List.setIfInBounds_toArray, List.set_cons_zero, List.set_cons_succ]
    refine held_take (i := 5) (v := ?_) rfl (by kernel_rfl) (by kernel_rfl) (by kernel_rfl) (fun _ _ _ h => h) (Or.inl ⟨by rfl, ?_⟩) (by assumption) ?_
    rotate_left
    · intro w hSw; (try dsimp only at hSw); go_simp; try with_reducible rfl
    try simp only [Act.put, List.setIfInBounds_toArray, List.set_cons_zero, List.set_cons_succ]
    refine held_take (i := 6) (v := ?_) rfl (by kernel_rfl) (by kernel_rfl) (by kernel_rfl) (fun _ _ _ h => h) (Or.inl ⟨by rfl, ?_⟩) (by assumption) ?_
    rotate_left
    · intro w hSw; (try dsimp only at hSw); go_simp; try with_reducible rfl
    try simp only [Act.put, List.setIfInBounds_toArray, List.set_cons_zero, List.set_cons_succ]
    refine held_take (i := 7) (v := _) rfl (by kernel_rfl) (by kernel_rfl) (by kernel_rfl) (fun _ _ _ h => h) (yieldsIf_row (by rfl) rfl rfl Try.underlying27 is S5.out) (by assumption) ?_
    try simp only [Act.put, List.setIfInBounds_toArray, List.set_cons_zero, List.set_cons_succ]
    refine held_take (i := 9) (v := ?_) rfl (by kernel_rfl) (by kernel_rfl) (by kernel_rfl) (fun _ _ _ h => h) (Or.inl ⟨by rfl, ?_⟩) (by assumption) ?_
    rotate_left
    · intro w hSw; (try dsimp only at hSw); go_simp; try with_reducible rfl
    try simp only [Act.put, List.setIfInBounds_toArray, List.set_cons_zero, List.set_cons_succ]
    refine held_ready (i := 8) rfl (by kernel_rfl) (fun K hK => ?_)
    go_simp
    refine (lnew_any _).mono ?_; rintro e w8 ⟨b, rfl, l8, B8⟩
    have N8 := N7.out.below B8
    have low8 := low7.out.trans (B8.mono low7.out.size)
    have l8' := l8.tight
    replace B8 := Lib.hid B8
    replace N8 := Lib.hid N8
    replace low8 := Lib.hid low8
    replace l8 := Lib.hid l8
    replace l8' := Lib.hid l8'
    refine hK.out _ _ (N8.out) (fun hHeldN => ?_)
    clear hHeld hK K
    have hHeld := hHeldN
    clear hHeldN
    try simp only [Act.put, List.setIfInBounds_toArray, List.set_cons_zero, List.set_cons_succ]
    refine held_ready (i := 10) rfl (by kernel_rfl) (fun K hK => ?_)
    go_simp
    refine (lsum_st l8'.out _ t (ht.out.below low8.out) hl.out (by decide)).mono ?_
    rintro e w9 ⟨rfl, F9, _, _, U9⟩
    have B9 : Below w7.heap.size w8 w9 := U9.below (fun k hk hF => by have := hF.1; omega) B8.out.size
    have N9 : NobSt w9 g (g + 1) w.heap.size t := by
      have a1 := N7.out.x.lt
      have a2 := N7.out.y.lt
      have a3 := block_lt_of_cell N7.out.c
      exact ⟨N8.out.x.other (B9.block _ a1), N8.out.y.other (B9.block _ a2), (B9.cell a3).trans N8.out.c⟩
    have low9 : Below w.heap.size w w9 := low8.out.trans (B9.mono low7.out.size)
    clear U9
    replace B9 := Lib.hid B9
    replace N9 := Lib.hid N9
    replace low9 := Lib.hid low9
    refine hK.out _ _ (N9.out) (fun hHeldN => ?_)
    clear hHeld hK K
    have hHeld := hHeldN
    clear hHeldN
    try simp only [Act.put, List.setIfInBounds_toArray, List.set_cons_zero, List.set_cons_succ]
    refine held_take (i := 11) (v := ?_) rfl (by kernel_rfl) (by kernel_rfl) (by kernel_rfl) (fun _ _ _ h => h) (Or.inl ⟨by rfl, ?_⟩) (by assumption) ?_
    rotate_left
    · intro w hSw; (try dsimp only at hSw); go_simp; try with_reducible rfl
    try simp only [Act.put, List.setIfInBounds_toArray, List.set_cons_zero, List.set_cons_succ]
    refine held_take (i := 12) (v := ?_) rfl (by kernel_rfl) (by kernel_rfl) (by kernel_rfl) (fun _ _ _ h => h) (Or.inl ⟨by rfl, ?_⟩) (by assumption) ?_
    rotate_left
    · intro w hSw; (try dsimp only at hSw); go_simp; try with_reducible rfl
    try simp only [Act.put, List.setIfInBounds_toArray, List.set_cons_zero, List.set_cons_succ]
    refine held_take (i := 13) (v := ?_) rfl (by kernel_rfl) (by kernel_rfl) (by kernel_rfl) (fun _ _ _ h => h) (Or.inl ⟨by rfl, ?_⟩) (by assumption) ?_
    rotate_left
    · intro w hSw; (try dsimp only at hSw); go_simp; try with_reducible rfl
    try simp only [Act.put, List.setIfInBounds_toArray, List.set_cons_zero, List.set_cons_succ]
    refine held_take (i := 14) (v := ?_) rfl (by kernel_rfl) (by kernel_rfl) (by kernel_rfl) (fun _ _ _ h => h) (Or.inl ⟨by rfl, ?_⟩) (by assumption) ?_
    rotate_left
    · intro w hSw; (try dsimp only at hSw); go_simp; try with_reducible rfl
    try simp only [Act.put, List.setIfInBounds_toArray, List.set_cons_zero, List.set_cons_succ]
    refine held_ready (i := 15) rfl (by kernel_rfl) (fun K hK => ?_)
    go_simp
    refine (lcount_not (w := w9) (v := .pointer none) (.inl rfl)).mono ?_; rintro e w10 ⟨rfl, rfl⟩
    refine hK.out _ _ (N9.out) (fun hHeldN => ?_)
    clear hHeld hK K
    have hHeld := hHeldN
    clear hHeldN
    try simp only [Act.put, List.setIfInBounds_toArray, List.set_cons_zero, List.set_cons_succ]
    refine held_ready (i := 16) rfl (by kernel_rfl) (fun K hK => ?_)
    go_simp
    refine (lcount_not (w := w9) (v := .pointer (some ⟨w.heap.size, 0, none⟩)) (.inr ⟨_, rfl, N9.out.c⟩)).mono ?_; rintro e w10 ⟨rfl, rfl⟩
    refine hK.out _ _ (N9.out) (fun hHeldN => ?_)
    clear hHeld hK K
    have hHeld := hHeldN
    clear hHeldN
    try simp only [Act.put, List.setIfInBounds_toArray, List.set_cons_zero, List.set_cons_succ]
    refine held_take (i := 17) (v := ?_) rfl (by kernel_rfl) (by kernel_rfl) (by kernel_rfl) (fun _ _ _ h => h) (Or.inl ⟨by rfl, ?_⟩) (by assumption) ?_
    rotate_left
    · intro w hSw; (try dsimp only at hSw); go_simp; try with_reducible rfl
    try simp only [Act.put, List.setIfInBounds_toArray, List.set_cons_zero, List.set_cons_succ]
    refine held_take (i := 18) (v := ?_) rfl (by kernel_rfl) (by kernel_rfl) (by kernel_rfl) (fun _ _ _ h => h) (Or.inl ⟨by rfl, ?_⟩) (by assumption) ?_
    rotate_left
    · intro w hSw; (try dsimp only at hSw); go_simp; try with_reducible rfl
    try simp only [Act.put, List.setIfInBounds_toArray, List.set_cons_zero, List.set_cons_succ]
    refine held_take (i := 19) (v := ?_) rfl (by kernel_rfl) (by kernel_rfl) (by kernel_rfl) (fun _ _ _ h => h) (Or.inl ⟨by rfl, ?_⟩) (by assumption) ?_
    rotate_left
    · intro w hSw; (try dsimp only at hSw); go_simp; try with_reducible rfl
    try simp only [Act.put, List.setIfInBounds_toArray, List.set_cons_zero, List.set_cons_succ]
    refine held_take (i := 20) (v := ?_) rfl (by kernel_rfl) (by kernel_rfl) (by kernel_rfl) (fun _ _ _ h => h) (Or.inl ⟨by rfl, ?_⟩) (by assumption) ?_
    rotate_left
    · intro w hSw; (try dsimp only at hSw); go_simp; try with_reducible rfl
    try simp only [Act.put, List.setIfInBounds_toArray, List.set_cons_zero, List.set_cons_succ]
    refine held_take (i := 21) (v := ?_) rfl (by kernel_rfl) (by kernel_rfl) (by kernel_rfl) (fun _ _ _ h => h) (Or.inl ⟨by rfl, ?_⟩) (by assumption) ?_
    rotate_left
    · intro w hSw; (try dsimp only at hSw); go_simp; try with_reducible rfl
    try simp only [Act.put, List.setIfInBounds_toArray, List.set_cons_zero, List.set_cons_succ]
    refine held_take (i := 22) (v := ?_) rfl (by kernel_rfl) (by kernel_rfl) (by kernel_rfl) (fun _ _ _ h => h) (Or.inl ⟨by rfl, ?_⟩) (by assumption) ?_
    rotate_left
    · intro w hSw; (try dsimp only at hSw); go_simp; try with_reducible rfl
    try simp only [Act.put, List.setIfInBounds_toArray, List.set_cons_zero, List.set_cons_succ]
    refine held_ready (i := 23) rfl (by kernel_rfl) (fun K hK => ?_)
    go_simp
    refine (lhas_not (w := w9) (v := .pointer none) (.inl rfl) _).mono ?_; rintro e w10 ⟨rfl, B10⟩
    have N10 := N9.out.below B10
    have low10 := low9.out.trans (B10.mono low9.out.size)
    replace B10 := Lib.hid B10
    replace N10 := Lib.hid N10
    replace low10 := Lib.hid low10
    refine hK.out _ _ (N10.out) (fun hHeldN => ?_)
    clear hHeld hK K
    have hHeld := hHeldN
    clear hHeldN
    try simp only [Act.put, List.setIfInBounds_toArray, List.set_cons_zero, List.set_cons_succ]
    refine held_take (i := 24) (v := ?_) rfl (by kernel_rfl) (by kernel_rfl) (by kernel_rfl) (fun _ _ _ h => h) (Or.inl ⟨by rfl, ?_⟩) (by assumption) ?_
    rotate_left
    · intro w hSw; (try dsimp only at hSw); go_simp; try with_reducible rfl
    try simp only [Act.put, List.setIfInBounds_toArray, List.set_cons_zero, List.set_cons_succ]
    refine held_take (i := 25) (v := ?_) rfl (by kernel_rfl) (by kernel_rfl) (by kernel_rfl) (fun _ _ _ h => h) (Or.inl ⟨by rfl, ?_⟩) (by assumption) ?_
    rotate_left
    · intro w hSw; (try dsimp only at hSw); go_simp; try with_reducible rfl
    try simp only [Act.put, List.setIfInBounds_toArray, List.set_cons_zero, List.set_cons_succ]
    refine held_take (i := 26) (v := ?_) rfl (by kernel_rfl) (by kernel_rfl) (by kernel_rfl) (fun _ _ _ h => h) (Or.inl ⟨by rfl, ?_⟩) (by assumption) ?_
    rotate_left
    · intro w hSw; (try dsimp only at hSw); go_simp; try with_reducible rfl
    try simp only [Act.put, List.setIfInBounds_toArray, List.set_cons_zero, List.set_cons_succ]
    refine held_take (i := 27) (v := ?_) rfl (by kernel_rfl) (by kernel_rfl) (by kernel_rfl) (fun _ _ _ h => h) (Or.inl ⟨by rfl, ?_⟩) (by assumption) ?_
    rotate_left
    · intro w hSw; (try dsimp only at hSw); go_simp; try with_reducible rfl
    try simp only [Act.put, List.setIfInBounds_toArray, List.set_cons_zero, List.set_cons_succ]
    refine held_ready (i := 28) rfl (by kernel_rfl) (fun K hK => ?_)
    go_simp
    refine (lhas_not (w := w10) (v := .pointer (some ⟨w.heap.size, 0, none⟩)) (.inr ⟨_, rfl, N10.out.c⟩) _).mono ?_; rintro e w11 ⟨rfl, B11⟩
    have N11 := N10.out.below B11
    have low11 := low10.out.trans (B11.mono low10.out.size)
    replace B11 := Lib.hid B11
    replace N11 := Lib.hid N11
    replace low11 := Lib.hid low11
    refine hK.out _ _ (N11.out) (fun hHeldN => ?_)
    clear hHeld hK K
    have hHeld := hHeldN
    clear hHeldN
    try simp only [Act.put, List.setIfInBounds_toArray, List.set_cons_zero, List.set_cons_succ]
    refine held_take (i := 29) (v := ?_) rfl (by kernel_rfl) (by kernel_rfl) (by kernel_rfl) (fun _ _ _ h => h) (Or.inl ⟨by rfl, ?_⟩) (by assumption) ?_
    rotate_left
    · intro w hSw; (try dsimp only at hSw); go_simp; try with_reducible rfl
    try simp only [Act.put, List.setIfInBounds_toArray, List.set_cons_zero, List.set_cons_succ]
    refine held_take (i := 30) (v := ?_) rfl (by kernel_rfl) (by kernel_rfl) (by kernel_rfl) (fun _ _ _ h => h) (Or.inl ⟨by rfl, ?_⟩) (by assumption) ?_
    rotate_left
    · intro w hSw; (try dsimp only at hSw); go_simp; try with_reducible rfl
    try simp only [Act.put, List.setIfInBounds_toArray, List.set_cons_zero, List.set_cons_succ]
    refine held_take (i := 31) (v := ?_) rfl (by kernel_rfl) (by kernel_rfl) (by kernel_rfl) (fun _ _ _ h => h) (Or.inl ⟨by rfl, ?_⟩) (by assumption) ?_
    rotate_left
    · intro w hSw; (try dsimp only at hSw); go_simp; try with_reducible rfl
    try simp only [Act.put, List.setIfInBounds_toArray, List.set_cons_zero, List.set_cons_succ]
    refine held_take (i := 32) (v := ?_) rfl (by kernel_rfl) (by kernel_rfl) (by kernel_rfl) (fun _ _ _ h => h) (Or.inl ⟨by rfl, ?_⟩) (by assumption) ?_
    rotate_left
    · intro w hSw; (try dsimp only at hSw); go_simp; try with_reducible rfl
    try simp only [Act.put, List.setIfInBounds_toArray, List.set_cons_zero, List.set_cons_succ]
    refine held_take (i := 33) (v := ?_) rfl (by kernel_rfl) (by kernel_rfl) (by kernel_rfl) (fun _ _ _ h => h) (Or.inl ⟨by rfl, ?_⟩) (by assumption) ?_
    rotate_left
    · intro w hSw; (try dsimp only at hSw); go_simp; try with_reducible rfl
    try simp only [Act.put, List.setIfInBounds_toArray, List.set_cons_zero, List.set_cons_succ]
    refine held_take (i := 34) (v := ?_) rfl (by kernel_rfl) (by kernel_rfl) (by kernel_rfl) (fun _ _ _ h => h) (Or.inl ⟨by rfl, ?_⟩) (by assumption) ?_
    rotate_left
    · intro w hSw; (try dsimp only at hSw); go_simp; try with_reducible rfl
    try simp only [Act.put, List.setIfInBounds_toArray, List.set_cons_zero, List.set_cons_succ]
    refine held_take (i := 35) (v := ?_) rfl (by kernel_rfl) (by kernel_rfl) (by kernel_rfl) (fun _ _ _ h => h) (Or.inl ⟨by rfl, ?_⟩) (by assumption) ?_
    rotate_left
    · intro w hSw; (try dsimp only at hSw); go_simp; try with_reducible rfl
    try simp only [Act.put, List.setIfInBounds_toArray, List.set_cons_zero, List.set_cons_succ]
    refine held_take (i := 36) (v := ?_) rfl (by kernel_rfl) (by kernel_rfl) (by kernel_rfl) (fun _ _ _ h => h) (Or.inl ⟨by rfl, ?_⟩) (by assumption) ?_
    rotate_left
    · intro w hSw; (try dsimp only at hSw); go_simp; try with_reducible rfl
    try simp only [Act.put, List.setIfInBounds_toArray, List.set_cons_zero, List.set_cons_succ]
    refine held_take (i := 37) (v := ?_) rfl (by kernel_rfl) (by kernel_rfl) (by kernel_rfl) (fun _ _ _ h => h) (Or.inl ⟨by rfl, ?_⟩) (by assumption) ?_
    rotate_left
    · intro w hSw; (try dsimp only at hSw); go_simp; try with_reducible rfl
    try simp only [Act.put, List.setIfInBounds_toArray, List.set_cons_zero, List.set_cons_succ]
    refine held_take (i := 38) (v := ?_) rfl (by kernel_rfl) (by kernel_rfl) (by kernel_rfl) (fun _ _ _ h => h) (Or.inl ⟨by rfl, ?_⟩) (by assumption) ?_
    rotate_left
    · intro w hSw; (try dsimp only at hSw); go_simp; try with_reducible rfl
    try simp only [Act.put, List.setIfInBounds_toArray, List.set_cons_zero, List.set_cons_succ]
    refine held_take (i := 39) (v := ?_) rfl (by kernel_rfl) (by kernel_rfl) (by kernel_rfl) (fun _ _ _ h => h) (Or.inl ⟨by rfl, ?_⟩) (by assumption) ?_
    rotate_left
    · intro w hSw; (try dsimp only at hSw); go_simp; try with_reducible rfl
    try simp only [Act.put, List.setIfInBounds_toArray, List.set_cons_zero, List.set_cons_succ]
    refine wpAnyH_done (by kernel_rfl) ?_ _
    clear hHeld
    go_wp2_with fail
    go_ret
    exact ⟨rfl, low11.out⟩
end Go.Proofs.Ytjbmdeppoobccaa
