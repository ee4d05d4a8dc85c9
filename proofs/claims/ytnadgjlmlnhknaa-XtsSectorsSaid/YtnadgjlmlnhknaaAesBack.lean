/-
  aes: Back; and what Turn and Back answer without a cipher. Conditions as in AesTurn.
-/
import Derived.Test.YtnadgjlmlnhknaaAesTurn
namespace Go.Proofs.Ytnadgjlmlnhknaa
open Go.RowKit

set_option maxRecDepth 100000 in
theorem back_any {w : World} {b : Nat} {W : Nat → Nat} (h : CipherAt w b W) (hW : ∀ i, W i < 256) (x : Nat → Nat) (hx : Bytes16 x) :
    Calls Try.prog 20 #[.pointer (some ⟨b, 0, none⟩), .agg (u8s (tab x))] w fun e w' => e = .returned (.agg (u8s (tab (backF W x)))) ∧ Below w.heap.size w w' := by
  have sa := TurnSt.begin w x
  have ok := Lib.hid (ok_any (h.below sa.low (Nat.le_refl _)))
  have hC : ∀ (wr : World) (y : Nat → Nat), TurnSt w wr y → CipherAt wr b W := fun _ _ s => h.below s.low (Nat.le_refl _)
  replace h := Lib.hid h
  replace hx := Lib.hid hx
  replace hW := Lib.hid hW
  replace sa := Lib.hid sa
  replace hC := Lib.hid hC
  go_enter Try.func20, Try.ntmps20
  go_wp2_with fail
  refine ok.out.mono ?_
  rintro e w1 ⟨rfl, e1⟩
  have s1 : TurnSt w w1 (backTo W x 0) := e1 ▸ sa.out
  clear e1
  replace s1 := Lib.hid s1
  go_wp2_with fail
  go_loopw [5] (fun rv wr => ∃ k r : Nat, k + r = 14 ∧ rv = .int .i64 (r : Int) ∧ TurnSt w wr (backTo W x k)) (fun rv _ => (intOf rv).toNat)
  case atStart => exact ⟨0, 14, rfl, rfl, s1.out⟩
  case round =>
    clear s1
    obtain ⟨k, r, hkr, rfl, st⟩ := hrel
    by_cases hlt : 0 < r
    · have by0 := bytes_backTo hW.out hx.out k
      have er := backTo_succ W x k
      rw [show 14 - k = r by omega] at er
      generalize backTo W x k = y at *
      have c1 := Lib.hid (add_any (hC.out _ _ st) y by0 r (by omega))
      have x0 := st.x
      have b2 := by0.add hW.out r
      replace st := Lib.hid st
      replace by0 := Lib.hid by0
      go_wp2_with (refine wpList_load_b (by rfl) 24 (.tmp 3) rfl w.heap.size rfl 24 (tab y) x0 _ Try.underlying24 rfl (info16 _) ?_)
      refine c1.out.mono ?_
      rintro e w2 ⟨rfl, B2⟩
      have s2 := st.out.below B2
      have x2 := s2.x
      obtain ⟨y2, ey2⟩ : ∃ z, z = addF W r y := ⟨_, rfl⟩
      rw [← ey2] at b2 er ⊢
      clear x0 c1 B2 st
      replace s2 := Lib.hid s2
      replace ey2 := Lib.hid ey2
      replace b2 := Lib.hid b2
      by_cases h13 : r < 14
      ·
        have er : rowsB gunb (colsF 14 11 13 9 y2) = backTo W x (k + 1) := by rw [er]; unfold midB; rw [if_pos h13]
        replace er := Lib.hid er
        go_wp2_with (first
          | (refine wpList_store_s (by rfl) 24 (.tmp 3) (.tmp 17) rfl w.heap.size (tab y2) rfl rfl 24 _ x2 (info16 _) (same_size _ _) ?_; intro w3 R3 U3)
          | (refine wpList_load_b (by rfl) 24 (.tmp 3) rfl w.heap.size rfl 24 (tab y2) R3.out _ Try.underlying24 rfl (info16 _) ?_))
        have s3 := s2.out.put R3.out U3.out
        clear x2 s2 R3 U3
        have c6 := Lib.hid (cols_back' (hC.out _ _ s3) y2 b2.out)
        have b6 := b2.out.cols (a := 14) (b := 11) (c := 13) (d := 9) (by decide) (by decide) (by decide) (by decide)
        replace s3 := Lib.hid s3
        replace b6 := Lib.hid b6
        refine c6.out.mono ?_
        rintro e w6 ⟨rfl, B6⟩
        have s5a := s3.out.below B6
        have x5a := s5a.x
        clear c6 B6 s3
        replace s5a := Lib.hid s5a
        generalize colsF 14 11 13 9 y2 = y6 at *
        go_wp2_with (refine wpList_store_s (by rfl) 24 (.tmp 3) (.tmp 23) rfl w.heap.size (tab y6) rfl rfl 24 _ x5a (info16 _) (same_size _ _) ?_; intro w7 R7 U7)
        have s6 := s5a.out.put R7.out U7.out
        have x6 := s6.x
        clear x5a s5a R7 U7
        replace er := er.out
        replace s6 := Lib.hid s6
        have c8 := Lib.hid (rowsB_any (hC.out _ _ s6.out.drew) y6 b6.out)
        replace er := Lib.hid er
        refine wp_region_held_drew (S := (fun _ => True)) (by kernel_rfl) (trivial) (fun hHeld => ?_)
        refine held_take (i := 1) (v := ?_) rfl (by kernel_rfl) (by kernel_rfl) (by kernel_rfl) (fun _ _ _ h => h) (Or.inl ⟨by rfl, ?_⟩) (by assumption) ?_
        rotate_left
        · intro w hSw; (try dsimp only at hSw); go_simp; try with_reducible rfl
        try simp only [Act.put, List.setIfInBounds_toArray, List.set_cons_zero, List.set_cons_succ]
        refine held_take (i := 2) (v := ?_) rfl (by kernel_rfl) (by kernel_rfl) (by kernel_rfl) (fun _ _ _ h => h) (Or.inl ⟨by rfl, ?_⟩) (by assumption) ?_
        rotate_left
        · intro w hSw; (try dsimp only at hSw); go_simp; try with_reducible rfl
        try simp only [Act.put, List.setIfInBounds_toArray, List.set_cons_zero, List.set_cons_succ]
        refine held_take (i := 3) (v := ?_) rfl (by kernel_rfl) (by kernel_rfl) (by kernel_rfl) (fun _ _ _ h => h) (Or.inl ⟨by rfl, ?_⟩) (by assumption) ?_
        rotate_left
        · intro w hSw; (try dsimp only at hSw); go_simp; try with_reducible rfl
        try simp only [Act.put, List.setIfInBounds_toArray, List.set_cons_zero, List.set_cons_succ]
        refine held_ready (i := 0) rfl (by kernel_rfl) (fun K hK => ?_)
        rw [if_pos (by rfl)]
        refine wp_load_row 24 (.tmp 3) rfl w.heap.size rfl 24 (u8s (tab y6)) (0, 0) _ x6 Try.underlying24 rfl (info16 _) ?_
        refine hK.out _ _ (trivial) (fun hHeldN => ?_)
        clear hHeld hK K
        have hHeld := hHeldN
        clear hHeldN
        try simp only [Act.put, List.setIfInBounds_toArray, List.set_cons_zero, List.set_cons_succ]
        refine held_ready (i := 4) rfl (by kernel_rfl) (fun K hK => ?_)
        go_simp
        refine c8.out.mono ?_
        rintro e w8 ⟨rfl, B8⟩
        have s8 := s6.out.drew.below B8
        have x8 := s8.x
        clear c8 x6
        replace B8 := Lib.hid B8
        replace s8 := Lib.hid s8
        refine hK.out _ _ (trivial) (fun hHeldN => ?_)
        clear hHeld hK K
        have hHeld := hHeldN
        clear hHeldN
        try simp only [Act.put, List.setIfInBounds_toArray, List.set_cons_zero, List.set_cons_succ]
        refine held_ready (i := 5) rfl (by kernel_rfl) (fun K hK => ?_)
        rw [if_pos (by rfl)]
        refine wp_store_s 24 (.tmp 3) (.tmp 28) rfl w.heap.size (tab (rowsB gunb y6)) rfl rfl 24 _ x8 (info16 _) (same_size _ _) ?_
        intro w9 R9 U9
        have s9 := s8.out.put R9.out U9.out
        replace s9 := Lib.hid s9
        refine hK.out _ _ (trivial) (fun hHeldN => ?_)
        clear hHeld hK K
        have hHeld := hHeldN
        clear hHeldN
        try simp only [Act.put, List.setIfInBounds_toArray, List.set_cons_zero, List.set_cons_succ]
        refine wpAnyH_done (by kernel_rfl) ?_ _
        clear hHeld
        go_wp2_with fail
        go_roundw
        case rel => exact ⟨k + 1, r - 1, by omega, by go_num, er.out ▸ s9.out⟩
        case measure => simp [intOf]; omega
      ·
        have er : rowsB gunb y2 = backTo W x (k + 1) := by rw [er]; unfold midB; rw [if_neg h13]
        replace er := Lib.hid er
        go_wp2_with (refine wpList_store_s (by rfl) 24 (.tmp 3) (.tmp 17) rfl w.heap.size (tab y2) rfl rfl 24 _ x2 (info16 _) (same_size _ _) ?_; intro w3 R3 U3)
        have s6 := s2.out.put R3.out U3.out
        have x6 := s6.x
        have b6 := b2
        clear x2 s2 R3 U3 b2
        replace er := er.out
        replace s6 := Lib.hid s6
        generalize y2 = y6 at *
        have c8 := Lib.hid (rowsB_any (hC.out _ _ s6.out.drew) y6 b6.out)
        replace er := Lib.hid er
        refine wp_region_held_drew (S := (fun _ => True)) (by kernel_rfl) (trivial) (fun hHeld => ?_)
        refine held_take (i := 1) (v := ?_) rfl (by kernel_rfl) (by kernel_rfl) (by kernel_rfl) (fun _ _ _ h => h) (Or.inl ⟨by rfl, ?_⟩) (by assumption) ?_
        rotate_left
        · intro w hSw; (try dsimp only at hSw); go_simp; try with_reducible rfl
        try simp only [Act.put, List.setIfInBounds_toArray, List.set_cons_zero, List.set_cons_succ]
        refine held_take (i := 2) (v := ?_) rfl (by kernel_rfl) (by kernel_rfl) (by kernel_rfl) (fun _ _ _ h => h) (Or.inl ⟨by rfl, ?_⟩) (by assumption) ?_
        rotate_left
        · intro w hSw; (try dsimp only at hSw); go_simp; try with_reducible rfl
        try simp only [Act.put, List.setIfInBounds_toArray, List.set_cons_zero, List.set_cons_succ]
        refine held_take (i := 3) (v := ?_) rfl (by kernel_rfl) (by kernel_rfl) (by kernel_rfl) (fun _ _ _ h => h) (Or.inl ⟨by rfl, ?_⟩) (by assumption) ?_
        rotate_left
        · intro w hSw; (try dsimp only at hSw); go_simp; try with_reducible rfl
        try simp only [Act.put, List.setIfInBounds_toArray, List.set_cons_zero, List.set_cons_succ]
        refine held_ready (i := 0) rfl (by kernel_rfl) (fun K hK => ?_)
        rw [if_pos (by rfl)]
        refine wp_load_row 24 (.tmp 3) rfl w.heap.size rfl 24 (u8s (tab y6)) (0, 0) _ x6 Try.underlying24 rfl (info16 _) ?_
        refine hK.out _ _ (trivial) (fun hHeldN => ?_)
        clear hHeld hK K
        have hHeld := hHeldN
        clear hHeldN
        try simp only [Act.put, List.setIfInBounds_toArray, List.set_cons_zero, List.set_cons_succ]
        refine held_ready (i := 4) rfl (by kernel_rfl) (fun K hK => ?_)
        go_simp
        refine c8.out.mono ?_
        rintro e w8 ⟨rfl, B8⟩
        have s8 := s6.out.drew.below B8
        have x8 := s8.x
        clear c8 x6
        replace B8 := Lib.hid B8
        replace s8 := Lib.hid s8
        refine hK.out _ _ (trivial) (fun hHeldN => ?_)
        clear hHeld hK K
        have hHeld := hHeldN
        clear hHeldN
        try simp only [Act.put, List.setIfInBounds_toArray, List.set_cons_zero, List.set_cons_succ]
        refine held_ready (i := 5) rfl (by kernel_rfl) (fun K hK => ?_)
        rw [if_pos (by rfl)]
        refine wp_store_s 24 (.tmp 3) (.tmp 28) rfl w.heap.size (tab (rowsB gunb y6)) rfl rfl 24 _ x8 (info16 _) (same_size _ _) ?_
        intro w9 R9 U9
        have s9 := s8.out.put R9.out U9.out
        replace s9 := Lib.hid s9
        refine hK.out _ _ (trivial) (fun hHeldN => ?_)
        clear hHeld hK K
        have hHeld := hHeldN
        clear hHeldN
        try simp only [Act.put, List.setIfInBounds_toArray, List.set_cons_zero, List.set_cons_succ]
        refine wpAnyH_done (by kernel_rfl) ?_ _
        clear hHeld
        go_wp2_with fail
        go_roundw
        case rel => exact ⟨k + 1, r - 1, by omega, by go_num, er.out ▸ s9.out⟩
        case measure => simp [intOf]; omega
    · obtain rfl : r = 0 := by omega
      obtain rfl : k = 14 := by omega
      have x5 := st.x
      have z5 := st.z
      have a5 := Lib.hid (add_any (hC.out _ _ st) (backTo W x 14) (bytes_backTo hW.out hx.out 14) 0 (by decide))
      have eT : addF W 0 (backTo W x 14) = backF W x := rfl
      rw [eT] at a5
      clear eT
      generalize backTo W x 14 = y at *
      replace st := Lib.hid st
      go_wp2_with (refine wpList_load_b (by rfl) 24 (.tmp 3) rfl w.heap.size rfl 24 (tab y) x5 _ Try.underlying24 rfl (info16 _) ?_)
      refine a5.out.mono ?_
      rintro e w6 ⟨rfl, B6⟩
      have s6 := st.out.below B6
      have z6 := s6.z
      clear x5 z5 a5 B6
      replace s6 := Lib.hid s6
      go_wp2_with (refine wpList_store_s (by rfl) 24 (.tmp 4) (.tmp 31) rfl (w.heap.size + 1) (tab (backF W x)) rfl rfl 24 _ z6 (info16 _) (zero_size _) ?_
                   intro w7 R7 U7)
      refine ret_row rfl rfl (w.heap.size + 1) 24 _ (0, 0) _ rfl R7.out Try.underlying24 rfl (info16 _) ⟨rfl, ?_⟩
      exact s6.out.low.trans (U7.out.below (fun k hk e => by omega) s6.out.low.size)

set_option maxRecDepth 100000 in
theorem turn_nil (w : World) (x : Nat → Nat) :
    Calls Try.prog 19 #[.pointer none, .agg (u8s (tab x))] w fun e w' => e = .returned (.agg (u8s (List.replicate 16 0))) ∧ Below w.heap.size w w' := by
  have sa := Lib.hid (TurnSt.begin w x)
  have ok := Lib.hid (ok_nil ((w.alloc (.cells (u8s (tab x)) 24)).alloc (.cells (u8s (List.replicate 16 0)) 24)))
  have hi : (Try.prog.info? 24).map (·.size) = some (u8s (List.replicate 16 0)).size := rfl
  replace hi := Lib.hid hi
  go_enter Try.func19, Try.ntmps19
  go_wp2_with fail
  refine ok.out.mono ?_
  rintro e w1 ⟨rfl, e1⟩
  have s1 : TurnSt w w1 x := e1 ▸ sa.out
  have z1 := s1.z
  clear e1
  replace s1 := Lib.hid s1
  go_wp2_with (refine wpList_store_s (by rfl) 24 (.tmp 4) (.tmp 9) rfl (w.heap.size + 1) (List.replicate 16 0) rfl rfl 24 _ z1 hi.out rfl ?_
               intro w7 R7 U7)
  refine ret_row rfl rfl (w.heap.size + 1) 24 _ (0, 0) _ rfl R7.out Try.underlying24 rfl hi.out ⟨rfl, ?_⟩
  exact s1.out.low.trans (U7.out.below (fun k hk e => by omega) s1.out.low.size)
set_option maxRecDepth 100000 in
theorem back_off {w : World} {b : Nat} (hb : b < w.heap.size) (c0 : w.cell? ⟨b, 0, none⟩ = some (.bool false)) (x : Nat → Nat) :
    Calls Try.prog 20 #[.pointer (some ⟨b, 0, none⟩), .agg (u8s (tab x))] w fun e w' => e = .returned (.agg (u8s (List.replicate 16 0))) ∧ Below w.heap.size w w' := by
  have sa := TurnSt.begin w x
  have ok := Lib.hid (ok_off (b := b) ((World.cell?_of_block (w := w) (sa.low.block b hb)).trans c0))
  have hi : (Try.prog.info? 24).map (·.size) = some (u8s (List.replicate 16 0)).size := rfl
  replace hi := Lib.hid hi
  replace sa := Lib.hid sa
  go_enter Try.func20, Try.ntmps20
  go_wp2_with fail
  refine ok.out.mono ?_
  rintro e w1 ⟨rfl, e1⟩
  have s1 : TurnSt w w1 x := e1 ▸ sa.out
  have z1 := s1.z
  clear e1
  replace s1 := Lib.hid s1
  go_wp2_with (refine wpList_store_s (by rfl) 24 (.tmp 4) (.tmp 9) rfl (w.heap.size + 1) (List.replicate 16 0) rfl rfl 24 _ z1 hi.out rfl ?_
               intro w7 R7 U7)
  refine ret_row rfl rfl (w.heap.size + 1) 24 _ (0, 0) _ rfl R7.out Try.underlying24 rfl hi.out ⟨rfl, ?_⟩
  exact s1.out.low.trans (U7.out.below (fun k hk e => by omega) s1.out.low.size)
end Go.Proofs.Ytnadgjlmlnhknaa
