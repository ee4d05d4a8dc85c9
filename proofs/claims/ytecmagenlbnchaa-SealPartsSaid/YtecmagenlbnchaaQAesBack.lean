/-
  aes: Turn and Back. Conditions: the cipher lies in a block of its own; a block of bytes.
  aes: Back; and what Turn and Back answer without a cipher. Conditions as in AesTurn.
-/
import Derived.Test.YtecmagenlbnchaaQAesCols
namespace Go.Proofs.Ytecmagenlbnchaa
set_option maxRecDepth 100000
open Go.RowKit

theorem info16 (f : Nat → Nat) : (Try.prog.info? 91).map (·.size) = some (u8s (tab f)).size := by rw [size_tab]; rfl
theorem same_size (f g : Nat → Nat) : (u8s (tab f)).size = (u8s (tab g)).size := by rw [size_tab, size_tab]
theorem zero_size (g : Nat → Nat) : (u8s (List.replicate 16 0)).size = (u8s (tab g)).size := by rw [size_tab]; rfl

theorem cols_any {w : World} {b : Nat} {W : Nat → Nat} (h : CipherAt w b W) (x : Nat → Nat) (hx : Bytes16 x) (f0 f1 f2 f3 : Nat) (hf : Factors [f0, f1, f2, f3]) :
    Calls Try.prog 81 #[.pointer (some ⟨b, 0, none⟩), .agg (u8s (tab x)), .agg (u8s [f0, f1, f2, f3])] w fun e w' => e = .returned (.agg (u8s (tab (colsF f0 f1 f2 f3 x)))) ∧ Below w.heap.size w w' := by
  have e : tab (colsF f0 f1 f2 f3 x) = tab (fun j => colTo [f0, f1, f2, f3] x j 4) := by
    apply tab_ext
    intro j _
    unfold colsF
    show _ = 0 ^^^ gmul f0 (x (4 * (j / 4) + (j + 0) % 4)) ^^^ gmul f1 (x (4 * (j / 4) + (j + 1) % 4)) ^^^ gmul f2 (x (4 * (j / 4) + (j + 2) % 4)) ^^^ gmul f3 (x (4 * (j / 4) + (j + 3) % 4))
    rw [Nat.zero_xor]
  rw [e]
  exact cols_core h x hx _ hf

theorem cols_turn {w : World} {b : Nat} {W : Nat → Nat} (h : CipherAt w b W) (x : Nat → Nat) (hx : Bytes16 x) :
    Calls Try.prog 81 #[.pointer (some ⟨b, 0, none⟩), .agg (u8s (tab x)), .agg #[.int .u8 2, .int .u8 3, .int .u8 1, .int .u8 1]] w fun e w' => e = .returned (.agg (u8s (tab (colsF 2 3 1 1 x)))) ∧ Below w.heap.size w w' := by
  have e : u8s [2, 3, 1, 1] = #[.int .u8 2, .int .u8 3, .int .u8 1, .int .u8 1] := rfl
  rw [← e]
  exact cols_any h x hx 2 3 1 1 ⟨rfl, by decide⟩
theorem cols_back' {w : World} {b : Nat} {W : Nat → Nat} (h : CipherAt w b W) (x : Nat → Nat) (hx : Bytes16 x) :
    Calls Try.prog 81 #[.pointer (some ⟨b, 0, none⟩), .agg (u8s (tab x)), .agg #[.int .u8 14, .int .u8 11, .int .u8 13, .int .u8 9]] w fun e w' => e = .returned (.agg (u8s (tab (colsF 14 11 13 9 x)))) ∧ Below w.heap.size w w' := by
  have e : u8s [14, 11, 13, 9] = #[.int .u8 14, .int .u8 11, .int .u8 13, .int .u8 9] := rfl
  rw [← e]
  exact cols_any h x hx 14 11 13 9 ⟨rfl, by decide⟩

/-- A block that is turned in place, beside the answer's. -/
structure TurnSt (w wr : World) (y : Nat → Nat) : Prop where
  x : RowB wr w.heap.size 91 (tab y)
  z : RowB wr (w.heap.size + 1) 91 (List.replicate 16 0)
  low : Below w.heap.size w wr
theorem TurnSt.below {w wr w' : World} {y : Nat → Nat} (h : TurnSt w wr y) (hB : Below wr.heap.size wr w') : TurnSt w w' y :=
  ⟨h.x.below hB h.x.lt, h.z.below hB h.z.lt, h.low.trans (hB.mono h.low.size)⟩
theorem TurnSt.drew {w wr : World} {y : Nat → Nat} (h : TurnSt w wr y) : TurnSt w wr.drew y := ⟨h.x, h.z, h.low.drew⟩
theorem TurnSt.put {w wr w' : World} {y z : Nat → Nat} (h : TurnSt w wr y) (hr : RowB w' w.heap.size 91 (tab z)) (hU : Upd (fun i => i = w.heap.size) wr w') : TurnSt w w' z :=
  ⟨hr, h.z.other (hU.block _ h.z.lt (by omega)), h.low.trans (hU.below (fun k hk e => by omega) h.low.size)⟩
theorem TurnSt.begin (w : World) (x : Nat → Nat) : TurnSt w ((w.alloc (.cells (u8s (tab x)) 91)).alloc (.cells (u8s (List.replicate 16 0)) 91)) x := by
  have r0 : RowB (w.alloc (.cells (u8s (tab x)) 91)) w.heap.size 91 (tab x) := heap_alloc_new _ _
  refine ⟨r0.alloc _, ?_, ((Below.refl _ _).alloc (Nat.le_refl _) _).alloc (by simp) _⟩
  rw [show w.heap.size + 1 = (w.alloc (.cells (u8s (tab x)) 91)).heap.size by simp]
  exact heap_alloc_new _ _

set_option maxRecDepth 100000 in
theorem turn_any {w : World} {b : Nat} {W : Nat → Nat} (h : CipherAt w b W) (hW : ∀ i, W i < 256) (x : Nat → Nat) (hx : Bytes16 x) :
    Calls Try.prog 55 #[.pointer (some ⟨b, 0, none⟩), .agg (u8s (tab x))] w fun e w' => e = .returned (.agg (u8s (tab (turnF W x)))) ∧ Below w.heap.size w w' := by
  have sa := TurnSt.begin w x
  have ok := Lib.hid (ok_any (h.below sa.low (Nat.le_refl _)))
  have hC : ∀ (wr : World) (y : Nat → Nat), TurnSt w wr y → CipherAt wr b W := fun _ _ s => h.below s.low (Nat.le_refl _)
  replace h := Lib.hid h
  replace hx := Lib.hid hx
  replace hW := Lib.hid hW
  replace sa := Lib.hid sa
  replace hC := Lib.hid hC
  go_enter Try.func55, Try.ntmps55
  go_wp2_with fail
  refine ok.out.mono ?_
  rintro e w1 ⟨rfl, e1⟩
  have s1 : TurnSt w w1 x := e1 ▸ sa.out
  have x1 := s1.x
  clear e1
  replace s1 := Lib.hid s1
  go_wp2_with (refine wpList_load_b (by rfl) 91 (.tmp 3) rfl w.heap.size rfl 91 (tab x) x1 _ Try.underlying91 rfl (info16 _) ?_)
  have a1 := add_any (hC.out _ _ s1.out) x hx.out 0 (by decide)
  refine a1.mono ?_
  rintro e w2 ⟨rfl, B2⟩
  have s2 := s1.out.below B2
  have x2 := s2.x
  clear x1 a1 B2
  replace s2 := Lib.hid s2
  go_wp2_with (refine wpList_store_s (by rfl) 91 (.tmp 3) (.tmp 12) rfl w.heap.size (tab (addF W 0 x)) rfl rfl 91 _ x2 (info16 _) (same_size _ _) ?_; intro w3 R3 U3)
  have s3 : TurnSt w w3 (turnTo W x 0) := s2.out.put R3.out U3.out
  clear x2 s1
  replace s3 := Lib.hid s3
  go_loopw [5] (fun rv wr => ∃ r : Nat, r ≤ 14 ∧ rv = .int .i64 ((r : Int) + 1) ∧ TurnSt w wr (turnTo W x r)) (fun rv _ => 15 - (intOf rv).toNat)
  case atStart => exact ⟨0, by decide, rfl, s3.out⟩
  case round =>
    clear s2 s3 R3 U3
    obtain ⟨r, hr, rfl, st⟩ := hrel
    by_cases hlt : r < 14
    · have by0 := bytes_turnTo hW.out hx.out r
      have er := turnTo_succ W x r
      generalize turnTo W x r = y at *
      have c1 := Lib.hid (rows_any (hC.out _ _ st.drew) y by0)
      have x0 := st.x
      replace st := Lib.hid st
      replace er := Lib.hid er
      replace by0 := Lib.hid by0
      go_wp2_with fail
      refine wp_region_held_drew (S := (fun _ => True)) (by kernel_rfl) (trivial) (fun hHeld => ?_)
      refine held_take (i := 1) (v := ?_) rfl (by kernel_rfl) (by kernel_rfl) (by kernel_rfl) (fun _ _ _ h => h) (Or.inl ⟨by rfl, ?_⟩) (by assumption) ?_
      rotate_left
      · intro w hSw; (try dsimp only at hSw); go_simp; try with_reducible rfl
      try simp only [Act.put, List.setIfInBounds_toArray, List.set_cons_zero, List.set_cons_succ]
      refine held_take (i := 2) (v := ?_) rfl (by kernel_rfl) (by kernel_rfl) (by kernel_rfl) (fun _ _ _ h => h) (Or.inl ⟨by rfl, ?_⟩) (by assumption) ?_
      rotate_left
      · intro w hSw; (try dsimp only at hSw); go_simp; try with_reducible rfl
      try simp only [Act.put, List.setIfInBounds_toArray, List.set_cons_zero, List.set_cons_succ]
      refine held_take (i := 3) (v := ?_) rfl (by kernel_rfl) (by kernel_rfl) (by kernel_rfl) (fun _ _ _ h => h) (Or.inl ⟨by rfl, ?_⟩) (by assumption) ?_
      rotate_left
      · intro w hSw; (try dsimp only at hSw); go_simp; try with_reducible rfl
      try simp only [Act.put, List.setIfInBounds_toArray, List.set_cons_zero, List.set_cons_succ]
      refine held_ready (i := 0) rfl (by kernel_rfl) (fun K hK => ?_)
      rw [if_pos (by rfl)]
      refine wp_load_row 91 (.tmp 3) rfl w.heap.size rfl 91 (u8s (tab y)) (0, 0) _ x0 Try.underlying91 rfl (info16 _) ?_
      refine hK.out _ _ (trivial) (fun hHeldN => ?_)
      clear hHeld hK K
      have hHeld := hHeldN
      clear hHeldN
      try simp only [Act.put, List.setIfInBounds_toArray, List.set_cons_zero, List.set_cons_succ]
      refine held_ready (i := 4) rfl (by kernel_rfl) (fun K hK => ?_)
      go_simp
      refine c1.out.mono ?_
      rintro e w4 ⟨rfl, B4⟩
      have s4 := st.out.drew.below B4
      have x4 := s4.x
      clear c1 x0
      replace B4 := Lib.hid B4
      replace s4 := Lib.hid s4
      refine hK.out _ _ (trivial) (fun hHeldN => ?_)
      clear hHeld hK K
      have hHeld := hHeldN
      clear hHeldN
      try simp only [Act.put, List.setIfInBounds_toArray, List.set_cons_zero, List.set_cons_succ]
      refine held_ready (i := 5) rfl (by kernel_rfl) (fun K hK => ?_)
      rw [if_pos (by rfl)]
      refine wp_store_s 91 (.tmp 3) (.tmp 21) rfl w.heap.size (tab (rowsF gbox y)) rfl rfl 91 _ x4 (info16 _) (same_size _ _) ?_
      intro w5 R5 U5
      have s5 := s4.out.put R5.out U5.out
      have b5 := by0.out.rows
      have x5 := s5.x
      clear x4 B4 s4 R5 U5
      obtain ⟨y5, ey5⟩ : ∃ z, z = rowsF gbox y := ⟨_, rfl⟩
      rw [← ey5] at s5 b5 x5
      rw [← ey5]
      replace s5 := Lib.hid s5
      replace ey5 := Lib.hid ey5
      refine hK.out _ _ (trivial) (fun hHeldN => ?_)
      clear hHeld hK K
      have hHeld := hHeldN
      clear hHeldN
      try simp only [Act.put]
      refine wpAnyH_done (by kernel_rfl) ?_ _
      clear hHeld
      by_cases h13 : r + 1 < 14
      ·
        have er : addF W (r + 1) (colsF 2 3 1 1 y5) = turnTo W x (r + 1) := by rw [er.out]; unfold midF; rw [if_pos h13, ← ey5.out]
        have c6 := Lib.hid (cols_turn (hC.out _ _ s5.out) y5 b5)
        have b6 := b5.cols (a := 2) (b := 3) (c := 1) (d := 1) (by decide) (by decide) (by decide) (by decide)
        replace er := Lib.hid er
        replace b5 := Lib.hid b5
        replace b6 := Lib.hid b6
        go_wp2_with (refine wpList_load_b (by rfl) 91 (.tmp 3) rfl w.heap.size rfl 91 (tab y5) x5 _ Try.underlying91 rfl (info16 _) ?_)
        refine c6.out.mono ?_
        rintro e w6 ⟨rfl, B6⟩
        have s5a := s5.out.below B6
        have x5a := s5a.x
        clear x5 c6 B6
        replace s5a := Lib.hid s5a
        generalize colsF 2 3 1 1 y5 = y6 at *
        go_wp2_with (first
          | (refine wpList_store_s (by rfl) 91 (.tmp 3) (.tmp 27) rfl w.heap.size (tab y6) rfl rfl 91 _ x5a (info16 _) (same_size _ _) ?_; intro w7 R7 U7)
          | (refine wpList_load_b (by rfl) 91 (.tmp 3) rfl w.heap.size rfl 91 (tab y6) R7.out _ Try.underlying91 rfl (info16 _) ?_))
        have s6 := s5a.out.put R7.out U7.out
        have x6 := s6.x
        clear x5a s5a R7 U7
        replace er := er.out
        replace s6 := Lib.hid s6
        have a7 := add_any (hC.out _ _ s6.out) y6 b6.out (r + 1) (by omega)
        rw [show (((r + 1 : Nat) : Int)) = (r : Int) + 1 by omega] at a7
        replace a7 := Lib.hid a7
        replace er := Lib.hid er
        refine a7.out.mono ?_
        rintro e w8 ⟨rfl, B8⟩
        have s8 := s6.out.below B8
        have x8 := s8.x
        clear x6 a7 B8
        replace s8 := Lib.hid s8
        go_wp2_with (refine wpList_store_s (by rfl) 91 (.tmp 3) (.tmp 31) rfl w.heap.size (tab (addF W (r + 1) y6)) rfl rfl 91 _ x8 (info16 _) (same_size _ _) ?_; intro w9 R9 U9)
        have s9 := s8.out.put R9.out U9.out
        replace s9 := Lib.hid s9
        go_roundw
        case rel => exact ⟨r + 1, by omega, by go_num, er.out ▸ s9.out⟩
        case measure => simp [intOf]; omega
      ·
        have er : addF W (r + 1) y5 = turnTo W x (r + 1) := by rw [er.out]; unfold midF; rw [if_neg h13, ← ey5.out]
        have s6 := s5
        have x6 := x5
        have b6 := Lib.hid b5
        clear s5 x5 b5
        generalize y5 = y6 at *
        go_wp2_with (refine wpList_load_b (by rfl) 91 (.tmp 3) rfl w.heap.size rfl 91 (tab y6) x6 _ Try.underlying91 rfl (info16 _) ?_)
        have a7 := add_any (hC.out _ _ s6.out) y6 b6.out (r + 1) (by omega)
        rw [show (((r + 1 : Nat) : Int)) = (r : Int) + 1 by omega] at a7
        replace a7 := Lib.hid a7
        replace er := Lib.hid er
        refine a7.out.mono ?_
        rintro e w8 ⟨rfl, B8⟩
        have s8 := s6.out.below B8
        have x8 := s8.x
        clear x6 a7 B8
        replace s8 := Lib.hid s8
        go_wp2_with (refine wpList_store_s (by rfl) 91 (.tmp 3) (.tmp 31) rfl w.heap.size (tab (addF W (r + 1) y6)) rfl rfl 91 _ x8 (info16 _) (same_size _ _) ?_; intro w9 R9 U9)
        have s9 := s8.out.put R9.out U9.out
        replace s9 := Lib.hid s9
        go_roundw
        case rel => exact ⟨r + 1, by omega, by go_num, er.out ▸ s9.out⟩
        case measure => simp [intOf]; omega
    · obtain rfl : r = 14 := by omega
      have x5 := st.x
      have z5 := st.z
      have l5 := st.low
      have eT : turnTo W x 14 = turnF W x := rfl
      rw [eT] at x5
      clear eT
      replace st := Lib.hid st
      replace l5 := Lib.hid l5
      go_wp2_with (first
        | (refine wpList_load_b (by rfl) 91 (.tmp 3) rfl w.heap.size rfl 91 (tab (turnF W x)) x5 _ Try.underlying91 rfl (info16 _) ?_)
        | (refine wpList_store_s (by rfl) 91 (.tmp 4) (.tmp 32) rfl (w.heap.size + 1) (tab (turnF W x)) rfl rfl 91 _ z5 (info16 _) (zero_size _) ?_
           intro w6 R6 U6))
      refine ret_row rfl rfl (w.heap.size + 1) 91 _ (0, 0) _ rfl R6.out Try.underlying91 rfl (info16 _) ⟨rfl, ?_⟩
      exact l5.out.trans (U6.out.below (fun k hk e => by omega) l5.out.size)
end Go.Proofs.Ytecmagenlbnchaa
namespace Go.Proofs.Ytecmagenlbnchaa
set_option maxRecDepth 100000
open Go.RowKit

set_option maxRecDepth 100000 in
theorem back_any {w : World} {b : Nat} {W : Nat → Nat} (h : CipherAt w b W) (hW : ∀ i, W i < 256) (x : Nat → Nat) (hx : Bytes16 x) :
    Calls Try.prog 66 #[.pointer (some ⟨b, 0, none⟩), .agg (u8s (tab x))] w fun e w' => e = .returned (.agg (u8s (tab (backF W x)))) ∧ Below w.heap.size w w' := by
  have sa := TurnSt.begin w x
  have ok := Lib.hid (ok_any (h.below sa.low (Nat.le_refl _)))
  have hC : ∀ (wr : World) (y : Nat → Nat), TurnSt w wr y → CipherAt wr b W := fun _ _ s => h.below s.low (Nat.le_refl _)
  replace h := Lib.hid h
  replace hx := Lib.hid hx
  replace hW := Lib.hid hW
  replace sa := Lib.hid sa
  replace hC := Lib.hid hC
  go_enter Try.func66, Try.ntmps66
  go_wp2_with fail
  refine ok.out.mono ?_
  rintro e w1 ⟨rfl, e1⟩
  have s1 : TurnSt w w1 (backTo W x 0) := e1 ▸ sa.out
  clear e1
  replace s1 := Lib.hid s1
  go_wp2_with fail
  go_loopw [5] (fun rv wr => ∃ k r : Nat, k + r = 14 ∧ rv = .int .i64 (r : Int) ∧ TurnSt w wr (backTo W x k)) (fun rv _ => (intOf rv).toNat)
  case atStart => exact ⟨0, 14, rfl, rfl, s1.out⟩
  case round =>
    clear s1
    obtain ⟨k, r, hkr, rfl, st⟩ := hrel
    by_cases hlt : 0 < r
    · have by0 := bytes_backTo hW.out hx.out k
      have er := backTo_succ W x k
      rw [show 14 - k = r by omega] at er
      generalize backTo W x k = y at *
      have c1 := Lib.hid (add_any (hC.out _ _ st) y by0 r (by omega))
      have x0 := st.x
      have b2 := by0.add hW.out r
      replace st := Lib.hid st
      replace by0 := Lib.hid by0
      go_wp2_with (refine wpList_load_b (by rfl) 91 (.tmp 3) rfl w.heap.size rfl 91 (tab y) x0 _ Try.underlying91 rfl (info16 _) ?_)
      refine c1.out.mono ?_
      rintro e w2 ⟨rfl, B2⟩
      have s2 := st.out.below B2
      have x2 := s2.x
      obtain ⟨y2, ey2⟩ : ∃ z, z = addF W r y := ⟨_, rfl⟩
      rw [← ey2] at b2 er ⊢
      clear x0 c1 B2 st
      replace s2 := Lib.hid s2
      replace ey2 := Lib.hid ey2
      replace b2 := Lib.hid b2
      by_cases h13 : r < 14
      ·
        have er : rowsB gunb (colsF 14 11 13 9 y2) = backTo W x (k + 1) := by rw [er]; unfold midB; rw [if_pos h13]
        replace er := Lib.hid er
        go_wp2_with (first
          | (refine wpList_store_s (by rfl) 91 (.tmp 3) (.tmp 17) rfl w.heap.size (tab y2) rfl rfl 91 _ x2 (info16 _) (same_size _ _) ?_; intro w3 R3 U3)
          | (refine wpList_load_b (by rfl) 91 (.tmp 3) rfl w.heap.size rfl 91 (tab y2) R3.out _ Try.underlying91 rfl (info16 _) ?_))
        have s3 := s2.out.put R3.out U3.out
        clear x2 s2 R3 U3
        have c6 := Lib.hid (cols_back' (hC.out _ _ s3) y2 b2.out)
        have b6 := b2.out.cols (a := 14) (b := 11) (c := 13) (d := 9) (by decide) (by decide) (by decide) (by decide)
        replace s3 := Lib.hid s3
        replace b6 := Lib.hid b6
        refine c6.out.mono ?_
        rintro e w6 ⟨rfl, B6⟩
        have s5a := s3.out.below B6
        have x5a := s5a.x
        clear c6 B6 s3
        replace s5a := Lib.hid s5a
        generalize colsF 14 11 13 9 y2 = y6 at *
        go_wp2_with (refine wpList_store_s (by rfl) 91 (.tmp 3) (.tmp 23) rfl w.heap.size (tab y6) rfl rfl 91 _ x5a (info16 _) (same_size _ _) ?_; intro w7 R7 U7)
        have s6 := s5a.out.put R7.out U7.out
        have x6 := s6.x
        clear x5a s5a R7 U7
        replace er := er.out
        replace s6 := Lib.hid s6
        have c8 := Lib.hid (rowsB_any (hC.out _ _ s6.out.drew) y6 b6.out)
        replace er := Lib.hid er
        refine wp_region_held_drew (S := (fun _ => True)) (by kernel_rfl) (trivial) (fun hHeld => ?_)
        refine held_take (i := 1) (v := ?_) rfl (by kernel_rfl) (by kernel_rfl) (by kernel_rfl) (fun _ _ _ h => h) (Or.inl ⟨by rfl, ?_⟩) (by assumption) ?_
        rotate_left
        · intro w hSw; (try dsimp only at hSw); go_simp; try with_reducible rfl
        try simp only [Act.put, List.setIfInBounds_toArray, List.set_cons_zero, List.set_cons_succ]
        refine held_take (i := 2) (v := ?_) rfl (by kernel_rfl) (by kernel_rfl) (by kernel_rfl) (fun _ _ _ h => h) (Or.inl ⟨by rfl, ?_⟩) (by assumption) ?_
        rotate_left
        · intro w hSw; (try dsimp only at hSw); go_simp; try with_reducible rfl
        try simp only [Act.put, List.setIfInBounds_toArray, List.set_cons_zero, List.set_cons_succ]
        refine held_take (i := 3) (v := ?_) rfl (by kernel_rfl) (by kernel_rfl) (by kernel_rfl) (fun _ _ _ h => h) (Or.inl ⟨by rfl, ?_⟩) (by assumption) ?_
        rotate_left
        · intro w hSw; (try dsimp only at hSw); go_simp; try with_reducible rfl
        try simp only [Act.put, List.setIfInBounds_toArray, List.set_cons_zero, List.set_cons_succ]
        refine held_ready (i := 0) rfl (by kernel_rfl) (fun K hK => ?_)
        rw [if_pos (by rfl)]
        refine wp_load_row 91 (.tmp 3) rfl w.heap.size rfl 91 (u8s (tab y6)) (0, 0) _ x6 Try.underlying91 rfl (info16 _) ?_
        refine hK.out _ _ (trivial) (fun hHeldN => ?_)
        clear hHeld hK K
        have hHeld := hHeldN
        clear hHeldN
        try simp only [Act.put, List.setIfInBounds_toArray, List.set_cons_zero, List.set_cons_succ]
        refine held_ready (i := 4) rfl (by kernel_rfl) (fun K hK => ?_)
        go_simp
        refine c8.out.mono ?_
        rintro e w8 ⟨rfl, B8⟩
        have s8 := s6.out.drew.below B8
        have x8 := s8.x
        clear c8 x6
        replace B8 := Lib.hid B8
        replace s8 := Lib.hid s8
        refine hK.out _ _ (trivial) (fun hHeldN => ?_)
        clear hHeld hK K
        have hHeld := hHeldN
        clear hHeldN
        try simp only [Act.put, List.setIfInBounds_toArray, List.set_cons_zero, List.set_cons_succ]
        refine held_ready (i := 5) rfl (by kernel_rfl) (fun K hK => ?_)
        rw [if_pos (by rfl)]
        refine wp_store_s 91 (.tmp 3) (.tmp 28) rfl w.heap.size (tab (rowsB gunb y6)) rfl rfl 91 _ x8 (info16 _) (same_size _ _) ?_
        intro w9 R9 U9
        have s9 := s8.out.put R9.out U9.out
        replace s9 := Lib.hid s9
        refine hK.out _ _ (trivial) (fun hHeldN => ?_)
        clear hHeld hK K
        have hHeld := hHeldN
        clear hHeldN
        try simp only [Act.put]
        refine wpAnyH_done (by kernel_rfl) ?_ _
        clear hHeld
        go_wp2_with fail
        go_roundw
        case rel => exact ⟨k + 1, r - 1, by omega, by go_num, er.out ▸ s9.out⟩
        case measure => simp [intOf]; omega
      ·
        have er : rowsB gunb y2 = backTo W x (k + 1) := by rw [er]; unfold midB; rw [if_neg h13]
        replace er := Lib.hid er
        go_wp2_with (refine wpList_store_s (by rfl) 91 (.tmp 3) (.tmp 17) rfl w.heap.size (tab y2) rfl rfl 91 _ x2 (info16 _) (same_size _ _) ?_; intro w3 R3 U3)
        have s6 := s2.out.put R3.out U3.out
        have x6 := s6.x
        have b6 := b2
        clear x2 s2 R3 U3 b2
        replace er := er.out
        replace s6 := Lib.hid s6
        generalize y2 = y6 at *
        have c8 := Lib.hid (rowsB_any (hC.out _ _ s6.out.drew) y6 b6.out)
        replace er := Lib.hid er
        refine wp_region_held_drew (S := (fun _ => True)) (by kernel_rfl) (trivial) (fun hHeld => ?_)
        refine held_take (i := 1) (v := ?_) rfl (by kernel_rfl) (by kernel_rfl) (by kernel_rfl) (fun _ _ _ h => h) (Or.inl ⟨by rfl, ?_⟩) (by assumption) ?_
        rotate_left
        · intro w hSw; (try dsimp only at hSw); go_simp; try with_reducible rfl
        try simp only [Act.put, List.setIfInBounds_toArray, List.set_cons_zero, List.set_cons_succ]
        refine held_take (i := 2) (v := ?_) rfl (by kernel_rfl) (by kernel_rfl) (by kernel_rfl) (fun _ _ _ h => h) (Or.inl ⟨by rfl, ?_⟩) (by assumption) ?_
        rotate_left
        · intro w hSw; (try dsimp only at hSw); go_simp; try with_reducible rfl
        try simp only [Act.put, List.setIfInBounds_toArray, List.set_cons_zero, List.set_cons_succ]
        refine held_take (i := 3) (v := ?_) rfl (by kernel_rfl) (by kernel_rfl) (by kernel_rfl) (fun _ _ _ h => h) (Or.inl ⟨by rfl, ?_⟩) (by assumption) ?_
        rotate_left
        · intro w hSw; (try dsimp only at hSw); go_simp; try with_reducible rfl
        try simp only [Act.put, List.setIfInBounds_toArray, List.set_cons_zero, List.set_cons_succ]
        refine held_ready (i := 0) rfl (by kernel_rfl) (fun K hK => ?_)
        rw [if_pos (by rfl)]
        refine wp_load_row 91 (.tmp 3) rfl w.heap.size rfl 91 (u8s (tab y6)) (0, 0) _ x6 Try.underlying91 rfl (info16 _) ?_
        refine hK.out _ _ (trivial) (fun hHeldN => ?_)
        clear hHeld hK K
        have hHeld := hHeldN
        clear hHeldN
        try simp only [Act.put, List.setIfInBounds_toArray, List.set_cons_zero, List.set_cons_succ]
        refine held_ready (i := 4) rfl (by kernel_rfl) (fun K hK => ?_)
        go_simp
        refine c8.out.mono ?_
        rintro e w8 ⟨rfl, B8⟩
        have s8 := s6.out.drew.below B8
        have x8 := s8.x
        clear c8 x6
        replace B8 := Lib.hid B8
        replace s8 := Lib.hid s8
        refine hK.out _ _ (trivial) (fun hHeldN => ?_)
        clear hHeld hK K
        have hHeld := hHeldN
        clear hHeldN
        try simp only [Act.put, List.setIfInBounds_toArray, List.set_cons_zero, List.set_cons_succ]
        refine held_ready (i := 5) rfl (by kernel_rfl) (fun K hK => ?_)
        rw [if_pos (by rfl)]
        refine wp_store_s 91 (.tmp 3) (.tmp 28) rfl w.heap.size (tab (rowsB gunb y6)) rfl rfl 91 _ x8 (info16 _) (same_size _ _) ?_
        intro w9 R9 U9
        have s9 := s8.out.put R9.out U9.out
        replace s9 := Lib.hid s9
        refine hK.out _ _ (trivial) (fun hHeldN => ?_)
        clear hHeld hK K
        have hHeld := hHeldN
        clear hHeldN
        try simp only [Act.put]
        refine wpAnyH_done (by kernel_rfl) ?_ _
        clear hHeld
        go_wp2_with fail
        go_roundw
        case rel => exact ⟨k + 1, r - 1, by omega, by go_num, er.out ▸ s9.out⟩
        case measure => simp [intOf]; omega
    · obtain rfl : r = 0 := by omega
      obtain rfl : k = 14 := by omega
      have x5 := st.x
      have z5 := st.z
      have a5 := Lib.hid (add_any (hC.out _ _ st) (backTo W x 14) (bytes_backTo hW.out hx.out 14) 0 (by decide))
      have eT : addF W 0 (backTo W x 14) = backF W x := rfl
      rw [eT] at a5
      clear eT
      generalize backTo W x 14 = y at *
      replace st := Lib.hid st
      go_wp2_with (refine wpList_load_b (by rfl) 91 (.tmp 3) rfl w.heap.size rfl 91 (tab y) x5 _ Try.underlying91 rfl (info16 _) ?_)
      refine a5.out.mono ?_
      rintro e w6 ⟨rfl, B6⟩
      have s6 := st.out.below B6
      have z6 := s6.z
      clear x5 z5 a5 B6
      replace s6 := Lib.hid s6
      go_wp2_with (refine wpList_store_s (by rfl) 91 (.tmp 4) (.tmp 31) rfl (w.heap.size + 1) (tab (backF W x)) rfl rfl 91 _ z6 (info16 _) (zero_size _) ?_
                   intro w7 R7 U7)
      refine ret_row rfl rfl (w.heap.size + 1) 91 _ (0, 0) _ rfl R7.out Try.underlying91 rfl (info16 _) ⟨rfl, ?_⟩
      exact s6.out.low.trans (U7.out.below (fun k hk e => by omega) s6.out.low.size)

set_option maxRecDepth 100000 in
theorem turn_nil (w : World) (x : Nat → Nat) :
    Calls Try.prog 55 #[.pointer none, .agg (u8s (tab x))] w fun e w' => e = .returned (.agg (u8s (List.replicate 16 0))) ∧ Below w.heap.size w w' := by
  have sa := Lib.hid (TurnSt.begin w x)
  have ok := Lib.hid (ok_nil ((w.alloc (.cells (u8s (tab x)) 91)).alloc (.cells (u8s (List.replicate 16 0)) 91)))
  have hi : (Try.prog.info? 91).map (·.size) = some (u8s (List.replicate 16 0)).size := rfl
  replace hi := Lib.hid hi
  go_enter Try.func55, Try.ntmps55
  go_wp2_with fail
  refine ok.out.mono ?_
  rintro e w1 ⟨rfl, e1⟩
  have s1 : TurnSt w w1 x := e1 ▸ sa.out
  have z1 := s1.z
  clear e1
  replace s1 := Lib.hid s1
  go_wp2_with (refine wpList_store_s (by rfl) 91 (.tmp 4) (.tmp 9) rfl (w.heap.size + 1) (List.replicate 16 0) rfl rfl 91 _ z1 hi.out rfl ?_
               intro w7 R7 U7)
  refine ret_row rfl rfl (w.heap.size + 1) 91 _ (0, 0) _ rfl R7.out Try.underlying91 rfl hi.out ⟨rfl, ?_⟩
  exact s1.out.low.trans (U7.out.below (fun k hk e => by omega) s1.out.low.size)
set_option maxRecDepth 100000 in
theorem back_off {w : World} {b : Nat} (hb : b < w.heap.size) (c0 : w.cell? ⟨b, 0, none⟩ = some (.bool false)) (x : Nat → Nat) :
    Calls Try.prog 66 #[.pointer (some ⟨b, 0, none⟩), .agg (u8s (tab x))] w fun e w' => e = .returned (.agg (u8s (List.replicate 16 0))) ∧ Below w.heap.size w w' := by
  have sa := TurnSt.begin w x
  have ok := Lib.hid (ok_off (b := b) ((World.cell?_of_block (w := w) (sa.low.block b hb)).trans c0))
  have hi : (Try.prog.info? 91).map (·.size) = some (u8s (List.replicate 16 0)).size := rfl
  replace hi := Lib.hid hi
  replace sa := Lib.hid sa
  go_enter Try.func66, Try.ntmps66
  go_wp2_with fail
  refine ok.out.mono ?_
  rintro e w1 ⟨rfl, e1⟩
  have s1 : TurnSt w w1 x := e1 ▸ sa.out
  have z1 := s1.z
  clear e1
  replace s1 := Lib.hid s1
  go_wp2_with (refine wpList_store_s (by rfl) 91 (.tmp 4) (.tmp 9) rfl (w.heap.size + 1) (List.replicate 16 0) rfl rfl 91 _ z1 hi.out rfl ?_
               intro w7 R7 U7)
  refine ret_row rfl rfl (w.heap.size + 1) 91 _ (0, 0) _ rfl R7.out Try.underlying91 rfl hi.out ⟨rfl, ?_⟩
  exact s1.out.low.trans (U7.out.below (fun k hk e => by omega) s1.out.low.size)
end Go.Proofs.Ytecmagenlbnchaa
