/-
  The law AesBack. Condition: a key of 32 bytes, a block of 16.
-/
import Derived.Test.YtnadgjlmlnhknaaLaw05
namespace Go.Proofs.Ytnadgjlmlnhknaa
open Go.RowKit

theorem byt_small {l : List Nat} (h : ∀ x ∈ l, x < 256) (i : Nat) : byt l i < 256 := by
  unfold byt
  rw [List.getD_eq_getElem?_getD]
  cases hq : l[i]? with
  | none => decide
  | some v => exact h v (List.mem_of_getElem? hq)
theorem tab_byt {l : List Nat} (h : l.length = 16) : tab (byt l) = l := by
  apply List.ext_getElem?
  intro i
  by_cases hi : i < 16
  · rw [tab_get _ hi]
    simp [byt, List.getD, h, hi]
  · rw [List.getElem?_eq_none (by rw [length_tab]; omega), List.getElem?_eq_none (by omega)]

set_option maxHeartbeats 4000000 in
set_option maxRecDepth 100000 in
theorem aback_any (w : World) (key l : List Nat) (hk : key.length = 32) (hs : ∀ x ∈ key, x < 256) (hl : l.length = 16) (hx : ∀ x ∈ l, x < 256) :
    Calls Try.prog 4 #[.agg (u8s key), .agg (u8s l)] w fun e w' => e = .returned (.bool true) ∧ Below w.heap.size w w' := by
  obtain ⟨X, hX⟩ : ∃ X, X = byt l := ⟨_, rfl⟩
  have eX : l = tab X := by rw [hX, tab_byt hl]
  have bX : Bytes16 X := fun i _ => by rw [hX]; exact byt_small hx i
  rw [eX]
  have hW : ∀ i, byt (wordsOf (byt key)) i < 256 := words_lt (byt_small hs) 60
  obtain ⟨W, eW⟩ : ∃ W, W = byt (wordsOf (byt key)) := ⟨_, rfl⟩
  rw [← eW] at hW
  have bT := bytes_turn hW bX
  have bB := bytes_back hW bX
  have e1 : tab (backF W (turnF W X)) = tab X := tab_eq (back_turn hW bX)
  have e2 : tab (turnF W (backF W X)) = tab X := tab_eq (turn_back hW bX)
  have q1 := fun (x : World) => cmp16 X X bX bX x
  simp only [beq_self_eq_true] at q1
  have i32 := info32 hk
  have iX := info16 X
  have r0 : RowB (w.alloc (.cells (u8s key) 23)) w.heap.size 23 key := heap_alloc_new _ _
  have r1 : RowB ((w.alloc (.cells (u8s key) 23)).alloc (.cells (u8s (tab X)) 24)) (w.heap.size + 1) 24 (tab X) := by
    rw [show w.heap.size + 1 = (w.alloc (.cells (u8s key) 23)).heap.size by simp]; exact heap_alloc_new _ _
  have k1 := r0.alloc (.cells (u8s (tab X)) 24)
  have low0 : Below w.heap.size w ((w.alloc (.cells (u8s key) 23)).alloc (.cells (u8s (tab X)) 24)) := ((Below.refl _ _).alloc (Nat.le_refl _) _).alloc (by simp) _
  have cn := Lib.hid (new_any ((w.alloc (.cells (u8s key) 23)).alloc (.cells (u8s (tab X)) 24)) key hk (byt_small hs))
  rw [← eW] at cn
  replace hX := Lib.hid hX
  replace eX := Lib.hid eX
  replace eW := Lib.hid eW
  replace hW := Lib.hid hW
  replace bX := Lib.hid bX
  replace bT := Lib.hid bT
  replace bB := Lib.hid bB
  replace e1 := Lib.hid e1
  replace e2 := Lib.hid e2
  replace r0 := Lib.hid r0
  replace r1 := Lib.hid r1
  replace low0 := Lib.hid low0
  go_enter Try.func4, Try.ntmps4
  go_wp2_with (refine wpList_load_b (by rfl) 23 (.tmp 2) rfl w.heap.size rfl 23 key k1 _ Try.underlying23 rfl i32 ?_)
  refine cn.out.mono ?_
  rintro e w1 ⟨b, rfl, hb, hC, B1⟩
  have x1 := r1.out.below B1 r1.out.lt
  have low1 := low0.out.trans (B1.mono low0.out.size)
  clear cn k1
  replace hb := Lib.hid hb
  replace hC := Lib.hid hC
  replace B1 := Lib.hid B1
  replace x1 := Lib.hid x1
  replace low1 := Lib.hid low1
  go_wp2_with fail
  have x1' : RowB w1.drew (w.heap.size + 1) 24 (tab X) := x1.out
  refine wp_region_held_drew (S := (fun w' => RowB w' (w.heap.size + 1) 24 (tab X))) (by kernel_rfl) (x1') (fun hHeld => ?_)
  refine held_ready (i := 0) rfl (by kernel_rfl) (fun K hK => ?_)
  go_simp
  refine (alive05 _).mono ?_
  rintro e w2 ⟨rfl, B2⟩
  have x2 : RowB w2 (w.heap.size + 1) 24 (tab X) := x1'.below B2 x1'.lt
  have hC2 : CipherAt w2 b W := (hC.out.stay (w' := w1.drew) (Nat.le_refl _) rfl).below B2 (Nat.le_refl _)
  have low2 := low1.out.drew.trans (B2.mono low1.out.size)
  replace B2 := Lib.hid B2
  replace hC2 := Lib.hid hC2
  replace low2 := Lib.hid low2
  refine hK.out _ _ (x2) (fun hHeldN => ?_)
  clear hHeld hK K
  have hHeld := hHeldN
  clear hHeldN
  try simp only [Act.put, List.setIfInBounds_toArray, List.set_cons_zero, List.set_cons_succ]
  refine held_take (i := 1) (v := ?_) rfl (by kernel_rfl) (by kernel_rfl) (by kernel_rfl) (fun _ _ _ h => h) (Or.inl ⟨by rfl, ?_⟩) (by assumption) ?_
  rotate_left
  · intro w hSw; (try dsimp only at hSw); go_simp; try with_reducible rfl
  try simp only [Act.put, List.setIfInBounds_toArray, List.set_cons_zero, List.set_cons_succ]
  refine held_take (i := 2) (v := ?_) rfl (by kernel_rfl) (by kernel_rfl) (by kernel_rfl) (fun _ _ _ h => h) (Or.inl ⟨by rfl, ?_⟩) (by assumption) ?_
  rotate_left
  · intro w hSw; (try dsimp only at hSw); go_simp; try with_reducible rfl
  try simp only [Act.put, List.setIfInBounds_toArray, List.set_cons_zero, List.set_cons_succ]
  refine held_take (i := 3) (v := ?_) rfl (by kernel_rfl) (by kernel_rfl) (by kernel_rfl) (fun _ _ _ h => h) (Or.inl ⟨by rfl, ?_⟩) (by assumption) ?_
  rotate_left
  · intro w hSw; (try dsimp only at hSw); go_simp; try with_reducible rfl
  try simp only [Act.put, List.setIfInBounds_toArray, List.set_cons_zero, List.set_cons_succ]
  refine held_take (i := 4) (v := _) rfl (by kernel_rfl) (by kernel_rfl) (by kernel_rfl) (fun _ _ _ h => h) (yieldsIf_row (by rfl) rfl rfl Try.underlying24 iX (fun w' h => h)) (by assumption) ?_
  try simp only [Act.put, List.setIfInBounds_toArray, List.set_cons_zero, List.set_cons_succ]
  refine held_take (i := 7) (v := _) rfl (by kernel_rfl) (by kernel_rfl) (by kernel_rfl) (fun _ _ _ h => h) (yieldsIf_row (by rfl) rfl rfl Try.underlying24 iX (fun w' h => h)) (by assumption) ?_
  try simp only [Act.put, List.setIfInBounds_toArray, List.set_cons_zero, List.set_cons_succ]
  refine held_ready (i := 5) rfl (by kernel_rfl) (fun K hK => ?_)
  go_simp
  have c5 := turn_any hC2.out hW.out X bX.out
  refine c5.mono ?_
  rintro e w3 ⟨rfl, B3⟩
  have x3 := x2.below B3 x2.lt
  have hC3 : CipherAt w3 b W := hC2.out.below B3 (Nat.le_refl _)
  have low3 := low2.out.trans (B3.mono low2.out.size)
  clear c5
  replace B3 := Lib.hid B3
  replace hC3 := Lib.hid hC3
  replace low3 := Lib.hid low3
  refine hK.out _ _ (x3) (fun hHeldN => ?_)
  clear hHeld hK K
  have hHeld := hHeldN
  clear hHeldN
  try simp only [Act.put, List.setIfInBounds_toArray, List.set_cons_zero, List.set_cons_succ]
  refine held_ready (i := 6) rfl (by kernel_rfl) (fun K hK => ?_)
  go_simp
  have c6 := back_any hC3.out hW.out (turnF W X) bT.out
  rw [e1.out] at c6
  refine c6.mono ?_
  rintro e w4 ⟨rfl, B4⟩
  have x4 := x3.below B4 x3.lt
  have hC4 : CipherAt w4 b W := hC3.out.below B4 (Nat.le_refl _)
  have low4 := low3.out.trans (B4.mono low3.out.size)
  clear c6
  replace B4 := Lib.hid B4
  replace hC4 := Lib.hid hC4
  replace low4 := Lib.hid low4
  refine hK.out _ _ (x4) (fun hHeldN => ?_)
  clear hHeld hK K
  have hHeld := hHeldN
  clear hHeldN
  try simp only [Act.put, List.setIfInBounds_toArray, List.set_cons_zero, List.set_cons_succ]
  refine held_take (i := 8) (v := ?_) rfl (by kernel_rfl) (by kernel_rfl) (by kernel_rfl) (fun _ _ _ h => h) (Or.inl ⟨by rfl, ?_⟩) (by assumption) ?_
  rotate_left
  · intro w hSw; (try dsimp only at hSw); go_simp; try with_reducible rfl
  try simp only [Act.put, List.setIfInBounds_toArray, List.set_cons_zero, List.set_cons_succ]
  refine held_take (i := 9) (v := ?_) rfl (by kernel_rfl) (by kernel_rfl) (by kernel_rfl) (fun _ _ _ h => h) (Or.inl ⟨by rfl, ?_⟩) (by assumption) ?_
  rotate_left
  · intro w hSw; (try dsimp only at hSw); go_simp; try with_reducible rfl
  try simp only [Act.put, List.setIfInBounds_toArray, List.set_cons_zero, List.set_cons_succ]
  refine held_take (i := 10) (v := ?_) rfl (by kernel_rfl) (by kernel_rfl) (by kernel_rfl) (fun _ _ _ h => h) (Or.inl ⟨by rfl, ?_⟩) (by assumption) ?_
  rotate_left
  · intro w hSw; (try dsimp only at hSw); go_simp; try with_reducible rfl
  try simp only [Act.put, List.setIfInBounds_toArray, List.set_cons_zero, List.set_cons_succ]
  refine held_take (i := 11) (v := ?_) rfl (by kernel_rfl) (by kernel_rfl) (by kernel_rfl) (fun _ _ _ h => h) (Or.inl ⟨by rfl, ?_⟩) (by assumption) ?_
  rotate_left
  · intro w hSw; (try dsimp only at hSw); go_simp; try with_reducible rfl
  try simp only [Act.put, List.setIfInBounds_toArray, List.set_cons_zero, List.set_cons_succ]
  refine held_take (i := 12) (v := ?_) rfl (by kernel_rfl) (by kernel_rfl) (by kernel_rfl) (fun _ _ _ h => h) (Or.inl ⟨by rfl, ?_⟩) (by assumption) ?_
  rotate_left
  · intro w hSw; (try dsimp only at hSw); go_simp; try with_reducible rfl
  try simp only [Act.put, List.setIfInBounds_toArray, List.set_cons_zero, List.set_cons_succ]
  refine held_take (i := 13) (v := _) rfl (by kernel_rfl) (by kernel_rfl) (by kernel_rfl) (fun _ _ _ h => h) (yieldsIf_row (by rfl) rfl rfl Try.underlying24 iX (fun w' h => h)) (by assumption) ?_
  try simp only [Act.put, List.setIfInBounds_toArray, List.set_cons_zero, List.set_cons_succ]
  refine held_take (i := 16) (v := _) rfl (by kernel_rfl) (by kernel_rfl) (by kernel_rfl) (fun _ _ _ h => h) (yieldsIf_row (by rfl) rfl rfl Try.underlying24 iX (fun w' h => h)) (by assumption) ?_
  try simp only [Act.put, List.setIfInBounds_toArray, List.set_cons_zero, List.set_cons_succ]
  refine held_ready (i := 14) rfl (by kernel_rfl) (fun K hK => ?_)
  go_simp
  have c7 := back_any hC4.out hW.out X bX.out
  refine c7.mono ?_
  rintro e w5 ⟨rfl, B5⟩
  have x5 := x4.below B5 x4.lt
  have hC5 : CipherAt w5 b W := hC4.out.below B5 (Nat.le_refl _)
  have low5 := low4.out.trans (B5.mono low4.out.size)
  clear c7
  replace B5 := Lib.hid B5
  replace hC5 := Lib.hid hC5
  replace low5 := Lib.hid low5
  refine hK.out _ _ (x5) (fun hHeldN => ?_)
  clear hHeld hK K
  have hHeld := hHeldN
  clear hHeldN
  try simp only [Act.put, List.setIfInBounds_toArray, List.set_cons_zero, List.set_cons_succ]
  refine held_ready (i := 15) rfl (by kernel_rfl) (fun K hK => ?_)
  go_simp
  have c8 := turn_any hC5.out hW.out (backF W X) bB.out
  rw [e2.out] at c8
  refine c8.mono ?_
  rintro e w6 ⟨rfl, B6⟩
  have x6 := x5.below B6 x5.lt
  have low6 := low5.out.trans (B6.mono low5.out.size)
  clear c8
  replace B6 := Lib.hid B6
  replace low6 := Lib.hid low6
  refine hK.out _ _ (x6) (fun hHeldN => ?_)
  clear hHeld hK K
  have hHeld := hHeldN
  clear hHeldN
  try simp only [Act.put, List.setIfInBounds_toArray, List.set_cons_zero, List.set_cons_succ]
  refine held_take (i := 17) (v := ?_) rfl (by kernel_rfl) (by kernel_rfl) (by kernel_rfl) (fun _ _ _ h => h) (Or.inl ⟨by rfl, ?_⟩) (by assumption) ?_
  rotate_left
  · intro w hSw; (try dsimp only at hSw); go_simp; try with_reducible rfl
  try simp only [Act.put, List.setIfInBounds_toArray, List.set_cons_zero, List.set_cons_succ]
  refine held_take (i := 18) (v := ?_) rfl (by kernel_rfl) (by kernel_rfl) (by kernel_rfl) (fun _ _ _ h => h) (Or.inl ⟨by rfl, ?_⟩) (by assumption) ?_
  rotate_left
  · intro w hSw; (try dsimp only at hSw); go_simp; try with_reducible rfl
  try simp only [Act.put, List.setIfInBounds_toArray, List.set_cons_zero, List.set_cons_succ]
  refine held_take (i := 19) (v := ?_) rfl (by kernel_rfl) (by kernel_rfl) (by kernel_rfl) (fun _ _ _ h => h) (Or.inl ⟨by rfl, ?_⟩) (by assumption) ?_
  rotate_left
  · intro w hSw; (try dsimp only at hSw); go_simp; try with_reducible rfl
  try simp only [Act.put, List.setIfInBounds_toArray, List.set_cons_zero, List.set_cons_succ]
  refine wpAnyH_done (by kernel_rfl) ?_ _
  clear hHeld
  go_wp2_with fail
  go_ret
  exact ⟨rfl, low6.out⟩
end Go.Proofs.Ytnadgjlmlnhknaa
