/-
  The law XtsMasks. Condition: a mask of 16 bytes, a stamp of 64 digits.
-/
import Derived.Test.YtnadgjlmlnhknaaLaw06
import Derived.Test.YtnadgjlmlnhknaaRefXts
namespace Go.Proofs.Ytnadgjlmlnhknaa
open Go.RowKit

theorem tab_byt' {l : List Nat} (h : l.length = 16) : tab (byt l) = l := by
  show bytesOf (byt l) 16 = l
  rw [← h]; exact bytesOf_byt l
structure MskSt (w : World) (gm gx gy : Nat) (m x y : List Nat) : Prop where
  m : RowB w gm 24 m
  x : RowB w gx 24 x
  y : RowB w gy 24 y
theorem MskSt.below {w w' : World} {gm gx gy : Nat} {m x y : List Nat} (h : MskSt w gm gx gy m x y) (hB : Below w.heap.size w w') : MskSt w' gm gx gy m x y := ⟨h.m.below hB h.m.lt, h.x.below hB h.x.lt, h.y.below hB h.y.lt⟩
theorem row_text6 {w : World} {b ty : Nat} {t : List Nat} (h : RowB w b ty t) (hs : ∀ x ∈ t, x < 256) {n : Nat} (hn : t.length = n) : TextAt w (.slice (some ⟨b, 0, none⟩) n n) t := by
  subst hn
  refine ⟨some ⟨b, 0, none⟩, t.length, rfl, Nat.le_refl _, fun e => by simp at e, fun i hi => ⟨byt_lt hs i, b, 0, rfl, ?_⟩⟩
  rw [Nat.zero_add]
  exact h.cell (i := i) (x := byt t i) (by simp [byt, List.getD, hi])

set_option maxHeartbeats 4000000 in
set_option maxRecDepth 100000 in
theorem lxmasks_any (w : World) (lm : List Nat) (h1 : lm.length = 16) (s1 : ∀ x ∈ lm, x < 256) (s : Nat) (hs : s < 18446744073709551616) :
    Calls Try.prog 8 #[.agg (u8s lm), .int .u64 (s : Int)] w fun e w' => e = .returned (.bool true) ∧ Below w.heap.size w w' := by
  have bm : Bytes16 (byt lm) := fun i _ => byt_lt s1 i
  obtain ⟨m, em⟩ : ∃ m, m = byt lm := ⟨_, rfl⟩
  have el : lm = tab m := by rw [em]; exact (tab_byt' h1).symm
  rw [← em] at bm
  subst el
  clear h1 s1 em
  have Rm : RowB (w.alloc (.cells (u8s (tab m)) 24)) w.heap.size 24 (tab m) := heap_alloc_new _ _
  have B0 : Below w.heap.size w (w.alloc (.cells (u8s (tab m)) 24)) := (Below.refl _ _).alloc (Nat.le_refl _) _
  have im := info16' m
  have ix := info16' (dblM m)
  have iy := info16' (twk s)
  have cd := Lib.hid (xdouble_any m bm (w.alloc (.cells (u8s (tab m)) 24)))
  have sx : ∀ x ∈ tab (dblM m), x < 256 := bytesOf_lt (fun i hi => dblM_lt bm i hi)
  have sy : ∀ x ∈ tab (twk s), x < 256 := bytesOf_lt (fun i _ => by unfold twk; split; exact Nat.mod_lt _ (by decide); decide)
  have sm : ∀ x ∈ tab m, x < 256 := bytesOf_lt (fun i hi => bm i hi)
  have al := Lib.hid (fun x => alive06 x)
  replace bm := Lib.hid bm
  replace Rm := Lib.hid Rm
  replace B0 := Lib.hid B0
  replace sx := Lib.hid sx
  replace sy := Lib.hid sy
  replace sm := Lib.hid sm
  replace hs := Lib.hid hs
  go_enter Try.func8, Try.ntmps8
  go_wp2_with (refine wpList_load_b (by rfl) 24 (.tmp 2) rfl w.heap.size rfl 24 (tab m) ?hh _ Try.underlying24 rfl im ?_; case hh => exact Rm.out)
  refine cd.out.mono ?_
  clear cd
  rintro e w1 ⟨rfl, B1⟩
  have low1 := B0.out.trans (B1.mono B0.out.size)
  have R1 := RowB.below Rm.out B1 Rm.out.lt
  replace B1 := Lib.hid B1
  replace low1 := Lib.hid low1
  replace R1 := Lib.hid R1
  go_wp2_with fail
  refine (xtweak_any s w1).mono ?_
  rintro e w2 ⟨rfl, B2⟩
  have low2 := low1.out.trans (B2.mono low1.out.size)
  have R2 := RowB.below R1.out B2 R1.out.lt
  have z5 : RowB ((w2.alloc (.cells (u8s (List.replicate 16 0)) 24)).alloc (.cells (u8s (List.replicate 16 0)) 24)) w2.heap.size 24 (List.replicate 16 0) := RowB.alloc (show RowB (w2.alloc (.cells (u8s (List.replicate 16 0)) 24)) w2.heap.size 24 (List.replicate 16 0) from heap_alloc_new _ _) _
  have z6 : RowB ((w2.alloc (.cells (u8s (List.replicate 16 0)) 24)).alloc (.cells (u8s (List.replicate 16 0)) 24)) (w2.heap.size + 1) 24 (List.replicate 16 0) := by
    have h := heap_alloc_new (w2.alloc (.cells (u8s (List.replicate 16 0)) 24)) (.cells (u8s (List.replicate 16 0)) 24)
    rw [World.size_alloc] at h
    exact h
  have BA : Below w2.heap.size w2 ((w2.alloc (.cells (u8s (List.replicate 16 0)) 24)).alloc (.cells (u8s (List.replicate 16 0)) 24)) := ((Below.refl _ _).alloc (Nat.le_refl _) _).alloc (by simp) _
  replace B2 := Lib.hid B2
  replace low2 := Lib.hid low2
  replace R2 := Lib.hid R2
  replace z5 := Lib.hid z5
  replace z6 := Lib.hid z6
  replace BA := Lib.hid BA
  go_wp2_with (first
    | (refine wpList_store_s (by rfl) 24 (.tmp 5) (.tmp 8) rfl w2.heap.size (tab (dblM m)) rfl rfl 24 (u8s (List.replicate 16 0)) ?hh ix (by rw [size_tab]; rfl) ?_; case hh => exact z5.out
       intro w3 R3 U3)
    | (refine wpList_store_s (by rfl) 24 (.tmp 6) (.tmp 10) rfl (w2.heap.size + 1) (tab (twk s)) rfl rfl 24 (u8s (List.replicate 16 0)) ?hh iy (by rw [size_tab]; rfl) ?_; case hh => exact RowB.other z6.out (U3.out.block _ z6.out.lt (by omega))
       intro w4 R4 U4))
  have M4 : MskSt w4.drew w.heap.size w2.heap.size (w2.heap.size + 1) (tab m) (tab (dblM m)) (tab (twk s)) := by
    have hl := R2.out.lt
    have h2 : Below w2.heap.size w2 w3 := BA.out.trans (U3.out.below (fun k hk e => by omega) BA.out.size)
    have h4 : Below w2.heap.size w2 w4 := h2.trans (U4.out.below (fun k hk e => by omega) h2.size)
    exact ⟨R2.out.other (h4.block _ hl), RowB.other R3.out (U4.out.block _ R3.out.lt (by omega)), R4.out⟩
  have low4 : Below w.heap.size w w4.drew := by
    have h2 : Below w2.heap.size w2 w3 := BA.out.trans (U3.out.below (fun k hk e => by omega) BA.out.size)
    have h4 : Below w2.heap.size w2 w4 := h2.trans (U4.out.below (fun k hk e => by omega) h2.size)
    exact (low2.out.trans (h4.mono low2.out.size)).drew
  clear z5 z6 BA R3 R4 U3 U4 R2 R1 low1 B1 B2 Rm
  generalize w2.heap.size = g at *
  have Sx : ∀ w', MskSt w' w.heap.size g (g + 1) (tab m) (tab (dblM m)) (tab (twk s)) → TextAt w' (.slice (some ⟨g, 0, none⟩) 16 16) (tab (dblM m)) := fun w' h => row_text6 h.x sx.out (length_tab _)
  have Sy : ∀ w', MskSt w' w.heap.size g (g + 1) (tab m) (tab (dblM m)) (tab (twk s)) → TextAt w' (.slice (some ⟨g + 1, 0, none⟩) 16 16) (tab (twk s)) := fun w' h => row_text6 h.y sy.out (length_tab _)
  replace M4 := Lib.hid M4
  replace low4 := Lib.hid low4
  replace low2 := Lib.hid low2
  replace Sx := Lib.hid Sx
  replace Sy := Lib.hid Sy
  refine wp_region_held_drew (S := (fun w' => MskSt w' w.heap.size g (g + 1) (tab m) (tab (dblM m)) (tab (twk s)))) (by kernel_rfl) (M4.out) (fun hHeld => ?_)
  refine held_ready (i := 0) rfl (by kernel_rfl) (fun K hK => ?_)
  go_simp
  refine (al.out _).mono ?_; rintro e w5 ⟨rfl, B5⟩
  have M5 := M4.out.below B5
  have low5 := low4.out.trans (B5.mono low4.out.size)
  replace B5 := Lib.hid B5
  replace M5 := Lib.hid M5
  replace low5 := Lib.hid low5
  refine hK.out _ _ (M5.out) (fun hHeldN => ?_)
  clear hHeld hK K
  have hHeld := hHeldN
  clear hHeldN
  try simp only [Act.put, List.setIfInBounds_toArray, List.set_cons_zero, List.set_cons_succ]
  refine held_take (i := 1) (v := ?_) rfl (by kernel_rfl) (by kernel_rfl) (by kernel_rfl) (fun _ _ _ h => h) (Or.inl ⟨by rfl, ?_⟩) (by assumption) ?_
  rotate_left
  · intro w hSw; (try dsimp only at hSw); go_simp; try with_reducible rfl
  try simp only [Act.put, List.setIfInBounds_toArray, List.set_cons_zero, List.set_cons_succ]
  refine held_take (i := 2) (v := ?_) rfl (by kernel_rfl) (by kernel_rfl) (by kernel_rfl) (fun _ _ _ h => h) (Or.inl ⟨by rfl, ?_⟩) (by assumption) ?_
  rotate_left
  · intro w hSw; (try dsimp only at hSw); go_simp; try with_reducible rfl
  try simp only [Act.put, List.setIfInBounds_toArray, List.set_cons_zero, List.set_cons_succ]
  refine held_take (i := 3) (v := _) rfl (by kernel_rfl) (by kernel_rfl) (by kernel_rfl) (fun _ _ _ h => h) (yieldsIf_str (by rfl) rfl rfl (v := .slice (some ⟨g, 0, none⟩) 16 16) Sx.out) (by assumption) ?_
  try simp only [Act.put, List.setIfInBounds_toArray, List.set_cons_zero, List.set_cons_succ]
  refine held_take (i := 4) (v := ?_) rfl (by kernel_rfl) (by kernel_rfl) (by kernel_rfl) (fun _ _ _ h => h) (Or.inl ⟨by rfl, ?_⟩) (by assumption) ?_
  rotate_left
  · intro w hSw; (try dsimp only at hSw); go_simp; try with_reducible rfl
  try simp only [Act.put, List.setIfInBounds_toArray, List.set_cons_zero, List.set_cons_succ]
  refine held_ready (i := 5) rfl (by kernel_rfl) (fun K hK => ?_)
  go_simp
  refine (ref_double w5 _ m bm.out (row_text6 M5.out.m sm.out (length_tab _))).mono ?_
  rintro e w6 ⟨v16, rfl, O6, B6⟩
  have M6 := M5.out.below B6
  have low6 := low5.out.trans (B6.mono low5.out.size)
  have T6 := O6.text sx.out
  replace B6 := Lib.hid B6
  replace M6 := Lib.hid M6
  replace low6 := Lib.hid low6
  replace T6 := Lib.hid T6
  replace O6 := Lib.hid O6
  refine hK.out _ _ (M6.out) (fun hHeldN => ?_)
  clear hHeld hK K
  have hHeld := hHeldN
  clear hHeldN
  try simp only [Act.put, List.setIfInBounds_toArray, List.set_cons_zero, List.set_cons_succ]
  refine held_ready (i := 6) rfl (by kernel_rfl) (fun K hK => ?_)
  rw [if_pos (by rfl)]
  refine wp_str rfl rfl T6.out ?_
  refine hK.out _ _ (M6.out) (fun hHeldN => ?_)
  clear hHeld hK K
  have hHeld := hHeldN
  clear hHeldN
  try simp only [Act.put, List.setIfInBounds_toArray, List.set_cons_zero, List.set_cons_succ]
  refine held_take (i := 7) (v := ?_) rfl (by kernel_rfl) (by kernel_rfl) (by kernel_rfl) (fun _ _ _ h => h) (Or.inl ⟨by rfl, ?_⟩) (by assumption) ?_
  rotate_left
  · intro w hSw; (try dsimp only at hSw); go_simp; try with_reducible rfl
  try simp only [Act.put, List.setIfInBounds_toArray, List.set_cons_zero, List.set_cons_succ]
  refine held_take (i := 8) (v := ?_) rfl (by kernel_rfl) (by kernel_rfl) (by kernel_rfl) (fun _ _ _ h => h) (Or.inl ⟨by rfl, ?_⟩) (by assumption) ?_
  rotate_left
  · intro w hSw; (try dsimp only at hSw); go_simp; try with_reducible rfl
  try simp only [Act.put, List.setIfInBounds_toArray, List.set_cons_zero, List.set_cons_succ]
  refine held_take (i := 9) (v := ?_) rfl (by kernel_rfl) (by kernel_rfl) (by kernel_rfl) (fun _ _ _ h => h) (Or.inl ⟨by rfl, ?_⟩) (by assumption) ?_
  rotate_left
  · intro w hSw; (try dsimp only at hSw); go_simp; try with_reducible rfl
  try simp only [Act.put, List.setIfInBounds_toArray, List.set_cons_zero, List.set_cons_succ]
  refine held_take (i := 10) (v := ?_) rfl (by kernel_rfl) (by kernel_rfl) (by kernel_rfl) (fun _ _ _ h => h) (Or.inl ⟨by rfl, ?_⟩) (by assumption) ?_
  rotate_left
  · intro w hSw; (try dsimp only at hSw); go_simp; try with_reducible rfl
  try simp only [Act.put, List.setIfInBounds_toArray, List.set_cons_zero, List.set_cons_succ]
  refine held_take (i := 11) (v := _) rfl (by kernel_rfl) (by kernel_rfl) (by kernel_rfl) (fun _ _ _ h => h) (yieldsIf_str (by rfl) rfl rfl (v := .slice (some ⟨g + 1, 0, none⟩) 16 16) Sy.out) (by assumption) ?_
  try simp only [Act.put, List.setIfInBounds_toArray, List.set_cons_zero, List.set_cons_succ]
  refine held_take (i := 12) (v := ?_) rfl (by kernel_rfl) (by kernel_rfl) (by kernel_rfl) (fun _ _ _ h => h) (Or.inl ⟨by rfl, ?_⟩) (by assumption) ?_
  rotate_left
  · intro w hSw; (try dsimp only at hSw); go_simp; try with_reducible rfl
  try simp only [Act.put, List.setIfInBounds_toArray, List.set_cons_zero, List.set_cons_succ]
  refine held_ready (i := 13) rfl (by kernel_rfl) (fun K hK => ?_)
  go_simp
  refine (ref_tweak w6 s hs.out).mono ?_
  rintro e w7 ⟨v24, rfl, O7, B7⟩
  have M7 := M6.out.below B7
  have low7 := low6.out.trans (B7.mono low6.out.size)
  have T7 := O7.text sy.out
  replace B7 := Lib.hid B7
  replace M7 := Lib.hid M7
  replace low7 := Lib.hid low7
  replace T7 := Lib.hid T7
  replace O7 := Lib.hid O7
  refine hK.out _ _ (M7.out) (fun hHeldN => ?_)
  clear hHeld hK K
  have hHeld := hHeldN
  clear hHeldN
  try simp only [Act.put, List.setIfInBounds_toArray, List.set_cons_zero, List.set_cons_succ]
  refine held_ready (i := 14) rfl (by kernel_rfl) (fun K hK => ?_)
  rw [if_pos (by rfl)]
  refine wp_str rfl rfl T7.out ?_
  refine hK.out _ _ (M7.out) (fun hHeldN => ?_)
  clear hHeld hK K
  have hHeld := hHeldN
  clear hHeldN
  try simp only [Act.put, List.setIfInBounds_toArray, List.set_cons_zero, List.set_cons_succ]
  refine held_take (i := 15) (v := ?_) rfl (by kernel_rfl) (by kernel_rfl) (by kernel_rfl) (fun _ _ _ h => h) (Or.inl ⟨by rfl, ?_⟩) (by assumption) ?_
  rotate_left
  · intro w hSw; (try dsimp only at hSw); go_simp; try with_reducible rfl
  try simp only [Act.put, List.setIfInBounds_toArray, List.set_cons_zero, List.set_cons_succ]
  refine held_take (i := 16) (v := ?_) rfl (by kernel_rfl) (by kernel_rfl) (by kernel_rfl) (fun _ _ _ h => h) (Or.inl ⟨by rfl, ?_⟩) (by assumption) ?_
  rotate_left
  · intro w hSw; (try dsimp only at hSw); go_simp; try with_reducible rfl
  try simp only [Act.put, List.setIfInBounds_toArray, List.set_cons_zero, List.set_cons_succ]
  refine held_take (i := 17) (v := ?_) rfl (by kernel_rfl) (by kernel_rfl) (by kernel_rfl) (fun _ _ _ h => h) (Or.inl ⟨by rfl, ?_⟩) (by assumption) ?_
  rotate_left
  · intro w hSw; (try dsimp only at hSw); go_simp; try with_reducible rfl
  try simp only [Act.put, List.setIfInBounds_toArray, List.set_cons_zero, List.set_cons_succ]
  refine wpAnyH_done (by kernel_rfl) ?_ _
  clear hHeld
  go_wp2_with fail
  go_ret
  exact ⟨rfl, low7.out⟩
end Go.Proofs.Ytnadgjlmlnhknaa
