/-
  The law AesApart. Condition: a key of 32 bytes, two blocks of 16.
-/
import Derived.Test.YtnadgjlmlnhknaaAesBack05
namespace Go.Proofs.Ytnadgjlmlnhknaa
open Go.RowKit

theorem turn_beq {W x y : Nat → Nat} (hW : ∀ i, W i < 256) (hx : Bytes16 x) (hy : Bytes16 y) : (tab (turnF W x) == tab (turnF W y)) = (tab x == tab y) := by
  rw [Bool.eq_iff_iff, beq_iff_eq, beq_iff_eq]
  exact ⟨fun h => tab_eq (turn_inj hW hx hy (same_tab h)), fun h => tab_eq (same_turn (same_tab h))⟩
theorem back_beq {W x y : Nat → Nat} (hW : ∀ i, W i < 256) (hx : Bytes16 x) (hy : Bytes16 y) : (tab (backF W x) == tab (backF W y)) = (tab x == tab y) := by
  rw [Bool.eq_iff_iff, beq_iff_eq, beq_iff_eq]
  exact ⟨fun h => tab_eq (back_inj hW hx hy (same_tab h)), fun h => tab_eq (same_back (same_tab h))⟩

set_option maxHeartbeats 4000000 in
set_option maxRecDepth 100000 in
theorem aapart_any (w : World) (key l m : List Nat) (hk : key.length = 32) (hs : ∀ x ∈ key, x < 256) (hl : l.length = 16) (hx : ∀ x ∈ l, x < 256) (hm : m.length = 16) (hy : ∀ x ∈ m, x < 256) :
    Calls Try.prog 5 #[.agg (u8s key), .agg (u8s l), .agg (u8s m)] w fun e w' => e = .returned (.bool true) ∧ Below w.heap.size w w' := by
  obtain ⟨X, hX⟩ : ∃ X, X = byt l := ⟨_, rfl⟩
  obtain ⟨Y, hY⟩ : ∃ X, X = byt m := ⟨_, rfl⟩
  have eX : l = tab X := by rw [hX, tab_byt hl]
  have eY : m = tab Y := by rw [hY, tab_byt hm]
  have bX : Bytes16 X := fun i _ => by rw [hX]; exact byt_small hx i
  have bY : Bytes16 Y := fun i _ => by rw [hY]; exact byt_small hy i
  rw [eX, eY]
  have hW : ∀ i, byt (wordsOf (byt key)) i < 256 := words_lt (byt_small hs) 60
  obtain ⟨W, eW⟩ : ∃ W, W = byt (wordsOf (byt key)) := ⟨_, rfl⟩
  rw [← eW] at hW
  have q1 := fun (x : World) => cmp16 X Y bX bY x
  have q2 := fun (x : World) => cmp16 (turnF W X) (turnF W Y) (bytes_turn hW bX) (bytes_turn hW bY) x
  have q3 := fun (x : World) => cmp16 (backF W X) (backF W Y) (bytes_back hW bX) (bytes_back hW bY) x
  rw [turn_beq hW bX bY] at q2
  rw [back_beq hW bX bY] at q3
  generalize (tab X == tab Y) = E at *
  have i32 := info32 hk
  have iX := info16 X
  have iY := info16 Y
  have r0 : RowB (w.alloc (.cells (u8s key) 23)) w.heap.size 23 key := heap_alloc_new _ _
  have r1 : RowB ((w.alloc (.cells (u8s key) 23)).alloc (.cells (u8s (tab X)) 24)) (w.heap.size + 1) 24 (tab X) := by
    rw [show w.heap.size + 1 = (w.alloc (.cells (u8s key) 23)).heap.size by simp]; exact heap_alloc_new _ _
  have r2 : RowB (((w.alloc (.cells (u8s key) 23)).alloc (.cells (u8s (tab X)) 24)).alloc (.cells (u8s (tab Y)) 24)) (w.heap.size + 2) 24 (tab Y) := by
    rw [show w.heap.size + 2 = ((w.alloc (.cells (u8s key) 23)).alloc (.cells (u8s (tab X)) 24)).heap.size by simp]; exact heap_alloc_new _ _
  have k1 := (r0.alloc (.cells (u8s (tab X)) 24)).alloc (.cells (u8s (tab Y)) 24)
  have r1' := r1.alloc (.cells (u8s (tab Y)) 24)
  have low0 : Below w.heap.size w (((w.alloc (.cells (u8s key) 23)).alloc (.cells (u8s (tab X)) 24)).alloc (.cells (u8s (tab Y)) 24)) := (((Below.refl _ _).alloc (Nat.le_refl _) _).alloc (by simp) _).alloc (by simp; omega) _
  have cn := Lib.hid (new_any (((w.alloc (.cells (u8s key) 23)).alloc (.cells (u8s (tab X)) 24)).alloc (.cells (u8s (tab Y)) 24)) key hk (byt_small hs))
  rw [← eW] at cn
  replace hX := Lib.hid hX
  replace eX := Lib.hid eX
  replace hY := Lib.hid hY
  replace eY := Lib.hid eY
  replace eW := Lib.hid eW
  replace hW := Lib.hid hW
  replace bX := Lib.hid bX
  replace bY := Lib.hid bY
  replace r0 := Lib.hid r0
  replace r1 := Lib.hid r1
  replace r1' := Lib.hid r1'
  replace r2 := Lib.hid r2
  replace low0 := Lib.hid low0
  go_enter Try.func5, Try.ntmps5
  go_wp2_with (refine wpList_load_b (by rfl) 23 (.tmp 3) rfl w.heap.size rfl 23 key k1 _ Try.underlying23 rfl i32 ?_)
  refine cn.out.mono ?_
  rintro e w1 ⟨b, rfl, hb, hC, B1⟩
  have x1 := r1'.out.below B1 r1'.out.lt
  have y1 := r2.out.below B1 r2.out.lt
  have low1 := low0.out.trans (B1.mono low0.out.size)
  clear cn k1
  replace hb := Lib.hid hb
  replace hC := Lib.hid hC
  replace B1 := Lib.hid B1
  replace x1 := Lib.hid x1
  replace y1 := Lib.hid y1
  replace low1 := Lib.hid low1
  go_wp2_with fail
  have x1' : RowB w1.drew (w.heap.size + 1) 24 (tab X) := x1.out
  have y1' : RowB w1.drew (w.heap.size + 2) 24 (tab Y) := y1.out
  refine wp_region_held_drew (S := (fun w' => RowB w' (w.heap.size + 1) 24 (tab X) ∧ RowB w' (w.heap.size + 2) 24 (tab Y))) (by kernel_rfl) (⟨x1', y1'⟩) (fun hHeld => ?_)
  refine held_ready (i := 0) rfl (by kernel_rfl) (fun K hK => ?_)
  go_simp
  refine (alive05 _).mono ?_
  rintro e w2 ⟨rfl, B2⟩
  have x2 : RowB w2 (w.heap.size + 1) 24 (tab X) := x1'.below B2 x1'.lt
  have y2 : RowB w2 (w.heap.size + 2) 24 (tab Y) := y1'.below B2 y1'.lt
  have hC2 : CipherAt w2 b W := (hC.out.stay (w' := w1.drew) (Nat.le_refl _) rfl).below B2 (Nat.le_refl _)
  have low2 := low1.out.drew.trans (B2.mono low1.out.size)
  replace B2 := Lib.hid B2
  replace hC2 := Lib.hid hC2
  replace low2 := Lib.hid low2
  refine hK.out _ _ (⟨x2, y2⟩) (fun hHeld => ?_)
  clear hK K
  try simp only [Act.put, List.setIfInBounds_toArray, List.set_cons_zero, List.set_cons_succ]
  refine held_take (i := 1) (v := ?_) rfl (by kernel_rfl) (by kernel_rfl) (by kernel_rfl) (fun _ _ _ h => h) (Or.inl ⟨by rfl, ?_⟩) (by assumption) ?_
  rotate_left
  · intro w hSw; (try dsimp only at hSw); go_simp; try with_reducible rfl
  try simp only [Act.put, List.setIfInBounds_toArray, List.set_cons_zero, List.set_cons_succ]
  refine held_take (i := 2) (v := ?_) rfl (by kernel_rfl) (by kernel_rfl) (by kernel_rfl) (fun _ _ _ h => h) (Or.inl ⟨by rfl, ?_⟩) (by assumption) ?_
  rotate_left
  · intro w hSw; (try dsimp only at hSw); go_simp; try with_reducible rfl
  try simp only [Act.put, List.setIfInBounds_toArray, List.set_cons_zero, List.set_cons_succ]
  refine held_take (i := 3) (v := _) rfl (by kernel_rfl) (by kernel_rfl) (by kernel_rfl) (fun _ _ _ h => h) (yieldsIf_row (by rfl) rfl rfl Try.underlying24 iX (fun w' h => h.1)) (by assumption) ?_
  try simp only [Act.put, List.setIfInBounds_toArray, List.set_cons_zero, List.set_cons_succ]
  refine held_take (i := 5) (v := ?_) rfl (by kernel_rfl) (by kernel_rfl) (by kernel_rfl) (fun _ _ _ h => h) (Or.inl ⟨by rfl, ?_⟩) (by assumption) ?_
  rotate_left
  · intro w hSw; (try dsimp only at hSw); go_simp; try with_reducible rfl
  try simp only [Act.put, List.setIfInBounds_toArray, List.set_cons_zero, List.set_cons_succ]
  refine held_take (i := 6) (v := _) rfl (by kernel_rfl) (by kernel_rfl) (by kernel_rfl) (fun _ _ _ h => h) (yieldsIf_row (by rfl) rfl rfl Try.underlying24 iY (fun w' h => h.2)) (by assumption) ?_
  try simp only [Act.put, List.setIfInBounds_toArray, List.set_cons_zero, List.set_cons_succ]
  refine held_take (i := 9) (v := _) rfl (by kernel_rfl) (by kernel_rfl) (by kernel_rfl) (fun _ _ _ h => h) (yieldsIf_row (by rfl) rfl rfl Try.underlying24 iX (fun w' h => h.1)) (by assumption) ?_
  try simp only [Act.put, List.setIfInBounds_toArray, List.set_cons_zero, List.set_cons_succ]
  refine held_take (i := 10) (v := _) rfl (by kernel_rfl) (by kernel_rfl) (by kernel_rfl) (fun _ _ _ h => h) (yieldsIf_row (by rfl) rfl rfl Try.underlying24 iY (fun w' h => h.2)) (by assumption) ?_
  try simp only [Act.put, List.setIfInBounds_toArray, List.set_cons_zero, List.set_cons_succ]
  refine held_take (i := 11) (v := ?_) rfl (by kernel_rfl) (by kernel_rfl) (by kernel_rfl) (fun _ _ _ h => h) (Or.inl ⟨by rfl, ?_⟩) (by assumption) ?_
  rotate_left
  · intro w hSw; (try dsimp only at hSw); go_simp; try with_reducible rfl
  try simp only [Act.put, List.setIfInBounds_toArray, List.set_cons_zero, List.set_cons_succ]
  refine held_ready (i := 4) rfl (by kernel_rfl) (fun K hK => ?_)
  go_simp
  have c2 := turn_any hC2.out hW.out X bX.out
  refine c2.mono ?_
  rintro e w3 ⟨rfl, B3⟩
  have x3 := x2.below B3 x2.lt
  have y3 := y2.below B3 y2.lt
  have hC3 : CipherAt w3 b W := hC2.out.below B3 (Nat.le_refl _)
  have low3 := low2.out.trans (B3.mono low2.out.size)
  clear c2
  replace B3 := Lib.hid B3
  replace hC3 := Lib.hid hC3
  replace low3 := Lib.hid low3
  refine hK.out _ _ (⟨x3, y3⟩) (fun hHeld => ?_)
  clear hK K
  try simp only [Act.put, List.setIfInBounds_toArray, List.set_cons_zero, List.set_cons_succ]
  refine held_ready (i := 7) rfl (by kernel_rfl) (fun K hK => ?_)
  go_simp
  have c3 := turn_any hC3.out hW.out Y bY.out
  refine c3.mono ?_
  rintro e w4 ⟨rfl, B4⟩
  have x4 := x3.below B4 x3.lt
  have y4 := y3.below B4 y3.lt
  have hC4 : CipherAt w4 b W := hC3.out.below B4 (Nat.le_refl _)
  have low4 := low3.out.trans (B4.mono low3.out.size)
  clear c3
  replace B4 := Lib.hid B4
  replace hC4 := Lib.hid hC4
  replace low4 := Lib.hid low4
  refine hK.out _ _ (⟨x4, y4⟩) (fun hHeld => ?_)
  clear hK K
  try simp only [Act.put, List.setIfInBounds_toArray, List.set_cons_zero, List.set_cons_succ]
  refine held_take (i := 8) (v := ?_) rfl (by kernel_rfl) (by kernel_rfl) (by kernel_rfl) (fun _ _ _ h => h) (Or.inl ⟨by rfl, ?_⟩) (by assumption) ?_
  rotate_left
  · intro w hSw; (try dsimp only at hSw); go_simp; try with_reducible rfl
  try simp only [Act.put, List.setIfInBounds_toArray, List.set_cons_zero, List.set_cons_succ]
  refine held_take (i := 12) (v := ?_) rfl (by kernel_rfl) (by kernel_rfl) (by kernel_rfl) (fun _ _ _ h => h) (Or.inl ⟨by rfl, ?_⟩) (by assumption) ?_
  rotate_left
  · intro w hSw; (try dsimp only at hSw); go_simp; try with_reducible rfl
  try simp only [Act.put, List.setIfInBounds_toArray, List.set_cons_zero, List.set_cons_succ]
  refine held_take (i := 13) (v := ?_) rfl (by kernel_rfl) (by kernel_rfl) (by kernel_rfl) (fun _ _ _ h => h) (Or.inl ⟨by rfl, ?_⟩) (by assumption) ?_
  rotate_left
  · intro w hSw; (try dsimp only at hSw); go_simp; try with_reducible rfl
  try simp only [Act.put, List.setIfInBounds_toArray, List.set_cons_zero, List.set_cons_succ]
  refine held_take (i := 14) (v := ?_) rfl (by kernel_rfl) (by kernel_rfl) (by kernel_rfl) (fun _ _ _ h => h) (Or.inl ⟨by rfl, ?_⟩) (by assumption) ?_
  rotate_left
  · intro w hSw; (try dsimp only at hSw); go_simp; try with_reducible rfl
  try simp only [Act.put, List.setIfInBounds_toArray, List.set_cons_zero, List.set_cons_succ]
  refine held_take (i := 15) (v := ?_) rfl (by kernel_rfl) (by kernel_rfl) (by kernel_rfl) (fun _ _ _ h => h) (Or.inl ⟨by rfl, ?_⟩) (by assumption) ?_
  rotate_left
  · intro w hSw; (try dsimp only at hSw); go_simp; try with_reducible rfl
  try simp only [Act.put, List.setIfInBounds_toArray, List.set_cons_zero, List.set_cons_succ]
  refine held_take (i := 16) (v := _) rfl (by kernel_rfl) (by kernel_rfl) (by kernel_rfl) (fun _ _ _ h => h) (yieldsIf_row (by rfl) rfl rfl Try.underlying24 iX (fun w' h => h.1)) (by assumption) ?_
  try simp only [Act.put, List.setIfInBounds_toArray, List.set_cons_zero, List.set_cons_succ]
  refine held_take (i := 18) (v := ?_) rfl (by kernel_rfl) (by kernel_rfl) (by kernel_rfl) (fun _ _ _ h => h) (Or.inl ⟨by rfl, ?_⟩) (by assumption) ?_
  rotate_left
  · intro w hSw; (try dsimp only at hSw); go_simp; try with_reducible rfl
  try simp only [Act.put, List.setIfInBounds_toArray, List.set_cons_zero, List.set_cons_succ]
  refine held_take (i := 19) (v := _) rfl (by kernel_rfl) (by kernel_rfl) (by kernel_rfl) (fun _ _ _ h => h) (yieldsIf_row (by rfl) rfl rfl Try.underlying24 iY (fun w' h => h.2)) (by assumption) ?_
  try simp only [Act.put, List.setIfInBounds_toArray, List.set_cons_zero, List.set_cons_succ]
  refine held_take (i := 22) (v := _) rfl (by kernel_rfl) (by kernel_rfl) (by kernel_rfl) (fun _ _ _ h => h) (yieldsIf_row (by rfl) rfl rfl Try.underlying24 iX (fun w' h => h.1)) (by assumption) ?_
  try simp only [Act.put, List.setIfInBounds_toArray, List.set_cons_zero, List.set_cons_succ]
  refine held_take (i := 23) (v := _) rfl (by kernel_rfl) (by kernel_rfl) (by kernel_rfl) (fun _ _ _ h => h) (yieldsIf_row (by rfl) rfl rfl Try.underlying24 iY (fun w' h => h.2)) (by assumption) ?_
  try simp only [Act.put, List.setIfInBounds_toArray, List.set_cons_zero, List.set_cons_succ]
  refine held_take (i := 24) (v := ?_) rfl (by kernel_rfl) (by kernel_rfl) (by kernel_rfl) (fun _ _ _ h => h) (Or.inl ⟨by rfl, ?_⟩) (by assumption) ?_
  rotate_left
  · intro w hSw; (try dsimp only at hSw); go_simp; try with_reducible rfl
  try simp only [Act.put, List.setIfInBounds_toArray, List.set_cons_zero, List.set_cons_succ]
  refine held_ready (i := 17) rfl (by kernel_rfl) (fun K hK => ?_)
  go_simp
  have c4 := back_any hC4.out hW.out X bX.out
  refine c4.mono ?_
  rintro e w5 ⟨rfl, B5⟩
  have x5 := x4.below B5 x4.lt
  have y5 := y4.below B5 y4.lt
  have hC5 : CipherAt w5 b W := hC4.out.below B5 (Nat.le_refl _)
  have low5 := low4.out.trans (B5.mono low4.out.size)
  clear c4
  replace B5 := Lib.hid B5
  replace hC5 := Lib.hid hC5
  replace low5 := Lib.hid low5
  refine hK.out _ _ (⟨x5, y5⟩) (fun hHeld => ?_)
  clear hK K
  try simp only [Act.put, List.setIfInBounds_toArray, List.set_cons_zero, List.set_cons_succ]
  refine held_ready (i := 20) rfl (by kernel_rfl) (fun K hK => ?_)
  go_simp
  have c5 := back_any hC5.out hW.out Y bY.out
  refine c5.mono ?_
  rintro e w6 ⟨rfl, B6⟩
  have x6 := x5.below B6 x5.lt
  have y6 := y5.below B6 y5.lt
  have hC6 : CipherAt w6 b W := hC5.out.below B6 (Nat.le_refl _)
  have low6 := low5.out.trans (B6.mono low5.out.size)
  clear c5
  replace B6 := Lib.hid B6
  replace hC6 := Lib.hid hC6
  replace low6 := Lib.hid low6
  refine hK.out _ _ (⟨x6, y6⟩) (fun hHeld => ?_)
  clear hK K
  try simp only [Act.put, List.setIfInBounds_toArray, List.set_cons_zero, List.set_cons_succ]
  refine held_take (i := 21) (v := ?_) rfl (by kernel_rfl) (by kernel_rfl) (by kernel_rfl) (fun _ _ _ h => h) (Or.inl ⟨by rfl, ?_⟩) (by assumption) ?_
  rotate_left
  · intro w hSw; (try dsimp only at hSw); go_simp; try with_reducible rfl
  try simp only [Act.put, List.setIfInBounds_toArray, List.set_cons_zero, List.set_cons_succ]
  refine held_take (i := 25) (v := ?_) rfl (by kernel_rfl) (by kernel_rfl) (by kernel_rfl) (fun _ _ _ h => h) (Or.inl ⟨by rfl, ?_⟩) (by assumption) ?_
  rotate_left
  · intro w hSw; (try dsimp only at hSw); go_simp; try with_reducible rfl
  try simp only [Act.put, List.setIfInBounds_toArray, List.set_cons_zero, List.set_cons_succ]
  refine held_take (i := 26) (v := ?_) rfl (by kernel_rfl) (by kernel_rfl) (by kernel_rfl) (fun _ _ _ h => h) (Or.inl ⟨by rfl, ?_⟩) (by assumption) ?_
  rotate_left
  · intro w hSw; (try dsimp only at hSw); go_simp; try with_reducible rfl
  try simp only [Act.put, List.setIfInBounds_toArray, List.set_cons_zero, List.set_cons_succ]
  refine held_take (i := 27) (v := ?_) rfl (by kernel_rfl) (by kernel_rfl) (by kernel_rfl) (fun _ _ _ h => h) (Or.inl ⟨by rfl, ?_⟩) (by assumption) ?_
  rotate_left
  · intro w hSw; (try dsimp only at hSw); go_simp; try with_reducible rfl
  try simp only [Act.put, List.setIfInBounds_toArray, List.set_cons_zero, List.set_cons_succ]
  refine wpAnyH_done (by kernel_rfl) ?_ _
  go_wp2_with fail
  go_ret
  exact ⟨rfl, low6.out⟩
end Go.Proofs.Ytnadgjlmlnhknaa
