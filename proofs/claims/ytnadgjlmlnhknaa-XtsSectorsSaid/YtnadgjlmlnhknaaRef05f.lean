/-
  The reference of layer 5: New, walked. Conditions: a key of 32 bytes.
-/
import Derived.Test.YtnadgjlmlnhknaaRef05e
namespace Go.Proofs.Ytnadgjlmlnhknaa
open Go.RowKit

theorem infoRow5 : (Try.prog.info? 29).map (fun i => (i.zero, i.size, i.bytes)) = some (some (.slice none 0 0), 1, 24) := by kernel_rfl
theorem onceW {P R : World → Prop} {G : Prop} (tree : (∀ w, R w → P w) → G) (leaf : ∀ w, R w → P w) : G := tree leaf
/-- Every order ends alike: the end is shown once. -/
theorem onceV {P R : Option Addr → Nat → Nat → World → Prop} {G : Prop} (tree : (∀ a n c w, R a n c w → P a n c w) → G) (leaf : ∀ a n c w, R a n c w → P a n c w) : G := tree leaf

set_option maxHeartbeats 8000000 in
set_option maxRecDepth 100000 in
theorem rnew_any (w : World) (v : Value) (key : List Nat) (hk : key.length = 32) (hv : TextAt w v key) :
    Calls Try.prog 18 #[v] w fun e w' => ∃ c aw cw vb vk, e = .returned (.pointer (some ⟨c, 0, none⟩)) ∧ RefC w' c aw cw vb vk (byt (wordsOf (byt key))) ∧ Below w.heap.size w w' := by
  have hs := hv.small
  have hsb := byt_lt hs
  obtain ⟨ak, ck, rfl, hcap, _⟩ := hv.ex
  have cuts := fun q (hq : q < 8) => TextAt.cut (lo := 4 * q) (hi := 4 * q + 4) hv (by omega) (by omega)
  have cutt : ∀ q, q < 8 → TextAt w (.slice (cutA ak ck (4 * q)) 4 (ck - 4 * q)) (wd (byt key) q) := fun q hq => by
    have h := cuts q hq
    rw [show 4 * q + 4 - 4 * q = 4 by omega, cut_bytes (by omega), wd_lo (byt key) hq] at h
    exact h
  rw [hk] at hcap ⊢
  clear cuts
  replace hv := Lib.hid hv
  replace cutt := Lib.hid cutt
  replace hk := Lib.hid hk
  replace hs := Lib.hid hs
  replace hsb := Lib.hid hsb
  go_enter Try.func18, Try.ntmps18
  go_wp2_with fail
  refine (rboxes_any _).mono ?_
  rintro e w1 ⟨v8, rfl, o8, B8⟩
  have n0 := NewR.begin (byt key) o8 B8
  obtain ⟨a8, n8, c8, rfl⟩ := o8.shape
  replace o8 := Lib.hid o8
  replace B8 := Lib.hid B8
  replace n0 := Lib.hid n0
  go_wp2_with fail
  go_loopw [4] (fun iv wr => ∃ (k : Nat) (vk : Value), k ≤ 256 ∧ iv = .int .i64 k ∧ NewR w wr w1.heap.size (.slice none 0 0) (.slice a8 n8 c8) vk (byt key) k 0) (fun iv _ => 256 - (intOf iv).toNat)
  case atStart => exact ⟨0, _, Nat.zero_le _, rfl, n0.out⟩
  case round =>
    clear n0
    obtain ⟨k, vk, hk256, rfl, hN⟩ := hrel
    by_cases hlt : k < 256
    · have lu : gunb k < 256 := gunb_lt hlt
      have hNd := hN.below (w' := wr.drew) (Below.refl _ _).drew
      have Bal : Below wr.drew.heap.size wr.drew (wr.drew.alloc (.cells #[.int .u8 (gunb k : Int)] 5)) := (Below.refl _ _).alloc (Nat.le_refl _) _
      have hNa := hNd.below Bal
      have cu := runbox_any k wr.drew _ (hNd.box.text (bytesOf_lt fun i hi => gbox_lt hi)) hlt
      have f1 : IntKind.u8.wrap (k : Int) = (k : Int) := IntWalk.u8_in _ (by omega)
      obtain ⟨_, cB, cK⟩ := hNd.cell
      obtain ⟨_, cBa, cKa⟩ := hNa.cell
      have cK0 : wr.cell? ⟨w1.heap.size, 2, none⟩ = some vk := hN.cell.2.2
      have hsz : w1.heap.size < wr.heap.size := lt_of_block hN.row
      have t1 := lit1 (wx := wr.drew) lu
      have sn := bytesOf_snoc gunb k
      have ll : (bytesOf gunb k).length = k := length_bytesOf _ _
      have rowA := hNa.row
      have hsA : w1.heap.size + 1 ≤ (wr.drew.alloc (.cells #[.int .u8 (gunb k : Int)] 5)).heap.size := lt_of_block rowA
      have OA := hNa.unb
      replace hN := Lib.hid hN
      replace hNd := Lib.hid hNd
      replace hNa := Lib.hid hNa
      replace t1 := Lib.hid t1
      replace sn := Lib.hid sn
      replace OA := Lib.hid OA
      replace hsA := Lib.hid hsA
      replace lu := Lib.hid lu
      replace Bal := Lib.hid Bal
      go_wp2_with fail
      refine wp_region_held_drew (S := (fun w' => w'.cell? ⟨w1.heap.size, 1, none⟩ = some (.slice a8 n8 c8))) (by kernel_rfl) (cB) (fun hHeld => ?_)
      refine held_take (i := 0) (v := ?_) rfl (by kernel_rfl) (by kernel_rfl) (by kernel_rfl) (fun _ _ _ h => h) (Or.inl ⟨by rfl, ?_⟩) (by assumption) ?_
      rotate_left
      · intro w hSw; (try dsimp only at hSw); go_simp; try with_reducible rfl
      try simp only [Act.put, List.setIfInBounds_toArray, List.set_cons_zero, List.set_cons_succ]
      refine held_take (i := 1) (v := ?_) rfl (by kernel_rfl) (by kernel_rfl) (by kernel_rfl) (fun _ _ _ h => h) (Or.inl ⟨by rfl, ?_⟩) (by assumption) ?_
      rotate_left
      · intro w hSw; (try dsimp only at hSw); go_simp; try with_reducible rfl
      try simp only [Act.put, List.setIfInBounds_toArray, List.set_cons_zero, List.set_cons_succ]
      refine held_take (i := 2) (v := ?_) rfl (by kernel_rfl) (by kernel_rfl) (by kernel_rfl) (fun _ _ _ h => h) (Or.inl ⟨by rfl, ?_⟩) (by assumption) ?_
      rotate_left
      · intro w hSw; (try dsimp only at hSw); go_simp; try with_reducible rfl
      try simp only [Act.put, List.setIfInBounds_toArray, List.set_cons_zero, List.set_cons_succ]
      refine held_take (i := 3) (v := ?_) rfl (by kernel_rfl) (by kernel_rfl) (by kernel_rfl) (fun _ _ _ h => h) (Or.inl ⟨by rfl, ?_⟩) (by assumption) ?_
      rotate_left
      · intro w hSw; (try dsimp only at hSw); go_simp; try with_reducible rfl
      try simp only [Act.put, List.setIfInBounds_toArray, List.set_cons_zero, List.set_cons_succ]
      refine held_take (i := 5) (v := ?_) rfl (by kernel_rfl) (by kernel_rfl) (by kernel_rfl) (fun _ _ _ h => h) (Or.inl ⟨by rfl, ?_⟩) (by assumption) ?_
      rotate_left
      · intro w hSw; (try dsimp only at hSw); go_simp; try with_reducible rfl
      try simp only [Act.put, List.setIfInBounds_toArray, List.set_cons_zero, List.set_cons_succ]
      refine held_take (i := 6) (v := ?_) rfl (by kernel_rfl) (by kernel_rfl) (by kernel_rfl) (fun _ _ _ h => h) (Or.inl ⟨by rfl, ?_⟩) (by assumption) ?_
      rotate_left
      · intro w hSw; (try dsimp only at hSw); go_simp; try with_reducible rfl
      try simp only [Act.put, List.setIfInBounds_toArray, List.set_cons_zero, List.set_cons_succ]
      refine held_take (i := 7) (v := ?_) rfl (by kernel_rfl) (by kernel_rfl) (by kernel_rfl) (fun _ _ _ h => h) (Or.inl ⟨by rfl, ?_⟩) (by assumption) ?_
      rotate_left
      · intro w hSw; (try dsimp only at hSw); go_simp; try with_reducible rfl
      try simp only [Act.put, List.setIfInBounds_toArray, List.set_cons_zero, List.set_cons_succ]
      refine held_take (i := 8) (v := ?_) rfl (by kernel_rfl) (by kernel_rfl) (by kernel_rfl) (fun _ _ _ h => h) (Or.inl ⟨by rfl, ?_⟩) (by assumption) ?_
      rotate_left
      · intro w hSw; (try dsimp only at hSw); go_simp; try with_reducible rfl
      try simp only [Act.put, List.setIfInBounds_toArray, List.set_cons_zero, List.set_cons_succ]
      refine held_take (i := 9) (v := ?_) rfl (by kernel_rfl) (by kernel_rfl) (by kernel_rfl) (fun _ _ _ h => h) (Or.inl ⟨by rfl, ?_⟩) (by assumption) ?_
      rotate_left
      · intro w hSw; (try dsimp only at hSw); go_simp; try with_reducible rfl
      try simp only [Act.put, List.setIfInBounds_toArray, List.set_cons_zero, List.set_cons_succ]
      refine held_take (i := 10) (v := ?_) rfl (by kernel_rfl) (by kernel_rfl) (by kernel_rfl) (fun _ _ _ h => h) (Or.inl ⟨by rfl, ?_⟩) (by assumption) ?_
      rotate_left
      · intro w hSw; (try dsimp only at hSw); go_simp; try with_reducible rfl
      try simp only [Act.put, List.setIfInBounds_toArray, List.set_cons_zero, List.set_cons_succ]
      refine held_readies2 (i0 := 4) (i1 := 11) rfl rfl (by kernel_rfl) (fun K hK => ?_) (fun K hK => ?_)
      ·
        rw [if_pos (by rfl)]
        go_simp
        refine hK.out _ _ ((by first | exact cB | exact cBa)) (fun hHeldN => ?_)
        clear hHeld hK K
        have hHeld := hHeldN
        clear hHeldN
        try simp only [Act.put, List.setIfInBounds_toArray, List.set_cons_zero, List.set_cons_succ]
        refine held_ready (i := 11) rfl (by kernel_rfl) (fun K hK => ?_)
        go_simp
        refine cu.mono ?_
        rintro e w3 ⟨rfl, rfl⟩
        refine hK.out _ _ (cB) (fun hHeldN => ?_)
        clear hHeld hK K
        have hHeld := hHeldN
        clear hHeldN
        try simp only [Act.put, List.setIfInBounds_toArray, List.set_cons_zero, List.set_cons_succ]
        refine held_ready (i := 12) rfl (by kernel_rfl) (fun K hK => ?_)
        rw [if_pos (by rfl)]
        go_simp
        refine hK.out _ _ (cBa) (fun hHeldN => ?_)
        clear hHeld hK K
        have hHeld := hHeldN
        clear hHeldN
        try simp only [Act.put, List.setIfInBounds_toArray, List.set_cons_zero, List.set_cons_succ]
        refine held_ready (i := 13) rfl (by kernel_rfl) (fun K hK => ?_)
        rw [if_pos (by rfl)]
        refine wp_append_t (.tmp 19) (.tmp 27) rfl (w1.heap.size + 1) _ vk (bytesOf gunb k) rfl OA.out (Below.refl _ _) hsA.out _ [gunb k] rfl t1.out (by rw [ll]; simp; omega) ?_
        intro v9 w9 O9 B9 G9 H9
        rw [← sn.out] at O9
        have row9 := (B9.out.block w1.heap.size (Nat.lt_succ_self _)).trans rowA
        have nF := hNa.out.putK B9.out O9.out
        have hf : w9.frozen? ⟨w1.heap.size, 2, none⟩ = false := frozen_of_row _ _ _ _ _ row9
        have hc9 : w9.cell? ⟨w1.heap.size, 2, none⟩ = some vk := (cell_of_row _ _ 2 _ _ _ row9).trans rfl
        have cB9 : w9.cell? ⟨w1.heap.size, 1, none⟩ = some (.slice a8 n8 c8) := (cell_of_row _ _ 1 _ _ _ row9).trans rfl
        obtain ⟨a9, n9, c9, rfl⟩ := O9.out.shape
        have cBF := nF.cell.2.1
        clear row9 B9 G9 H9 O9
        replace nF := Lib.hid nF
        refine hK.out _ _ (cB9) (fun hHeldN => ?_)
        clear hHeld hK K
        have hHeld := hHeldN
        clear hHeldN
        try simp only [Act.put, List.setIfInBounds_toArray, List.set_cons_zero, List.set_cons_succ]
        refine held_take (i := 14) (v := ?_) rfl (by kernel_rfl) (by kernel_rfl) (by kernel_rfl) (fun _ _ _ h => h) (Or.inl ⟨by rfl, ?_⟩) (by assumption) ?_
        rotate_left
        · intro w hSw; (try dsimp only at hSw); go_simp; try with_reducible rfl
        try simp only [Act.put, List.setIfInBounds_toArray, List.set_cons_zero, List.set_cons_succ]
        refine held_take (i := 15) (v := ?_) rfl (by kernel_rfl) (by kernel_rfl) (by kernel_rfl) (fun _ _ _ h => h) (Or.inl ⟨by rfl, ?_⟩) (by assumption) ?_
        rotate_left
        · intro w hSw; (try dsimp only at hSw); go_simp; try with_reducible rfl
        try simp only [Act.put, List.setIfInBounds_toArray, List.set_cons_zero, List.set_cons_succ]
        refine held_ready (i := 16) rfl (by kernel_rfl) (fun K hK => ?_)
        go_simp
        refine hK.out _ _ (cBF) (fun hHeldN => ?_)
        clear hHeld hK K
        have hHeld := hHeldN
        clear hHeldN
        try simp only [Act.put, List.setIfInBounds_toArray, List.set_cons_zero, List.set_cons_succ]
        refine wpAnyH_done (by kernel_rfl) ?_ _
        clear hHeld
        go_wp2_with fail
        go_roundw
        case rel => exact ⟨k + 1, _, by omega, by go_num, nF.out⟩
        case measure => simp [intOf]; omega
      ·
        go_simp
        refine cu.mono ?_
        rintro e w3 ⟨rfl, rfl⟩
        refine hK.out _ _ (cB) (fun hHeldN => ?_)
        clear hHeld hK K
        have hHeld := hHeldN
        clear hHeldN
        try simp only [Act.put, List.setIfInBounds_toArray, List.set_cons_zero, List.set_cons_succ]
        refine held_readies2 (i0 := 4) (i1 := 12) rfl rfl (by kernel_rfl) (fun K hK => ?_) (fun K hK => ?_)
        ·
          rw [if_pos (by rfl)]
          go_simp
          refine hK.out _ _ ((by first | exact cB | exact cBa)) (fun hHeldN => ?_)
          clear hHeld hK K
          have hHeld := hHeldN
          clear hHeldN
          try simp only [Act.put, List.setIfInBounds_toArray, List.set_cons_zero, List.set_cons_succ]
          refine held_ready (i := 12) rfl (by kernel_rfl) (fun K hK => ?_)
          rw [if_pos (by rfl)]
          go_simp
          refine hK.out _ _ (cBa) (fun hHeldN => ?_)
          clear hHeld hK K
          have hHeld := hHeldN
          clear hHeldN
          try simp only [Act.put, List.setIfInBounds_toArray, List.set_cons_zero, List.set_cons_succ]
          refine held_ready (i := 13) rfl (by kernel_rfl) (fun K hK => ?_)
          rw [if_pos (by rfl)]
          refine wp_append_t (.tmp 19) (.tmp 27) rfl (w1.heap.size + 1) _ vk (bytesOf gunb k) rfl OA.out (Below.refl _ _) hsA.out _ [gunb k] rfl t1.out (by rw [ll]; simp; omega) ?_
          intro v9 w9 O9 B9 G9 H9
          rw [← sn.out] at O9
          have row9 := (B9.out.block w1.heap.size (Nat.lt_succ_self _)).trans rowA
          have nF := hNa.out.putK B9.out O9.out
          have hf : w9.frozen? ⟨w1.heap.size, 2, none⟩ = false := frozen_of_row _ _ _ _ _ row9
          have hc9 : w9.cell? ⟨w1.heap.size, 2, none⟩ = some vk := (cell_of_row _ _ 2 _ _ _ row9).trans rfl
          have cB9 : w9.cell? ⟨w1.heap.size, 1, none⟩ = some (.slice a8 n8 c8) := (cell_of_row _ _ 1 _ _ _ row9).trans rfl
          obtain ⟨a9, n9, c9, rfl⟩ := O9.out.shape
          have cBF := nF.cell.2.1
          clear row9 B9 G9 H9 O9
          replace nF := Lib.hid nF
          refine hK.out _ _ (cB9) (fun hHeldN => ?_)
          clear hHeld hK K
          have hHeld := hHeldN
          clear hHeldN
          try simp only [Act.put, List.setIfInBounds_toArray, List.set_cons_zero, List.set_cons_succ]
          refine held_take (i := 14) (v := ?_) rfl (by kernel_rfl) (by kernel_rfl) (by kernel_rfl) (fun _ _ _ h => h) (Or.inl ⟨by rfl, ?_⟩) (by assumption) ?_
          rotate_left
          · intro w hSw; (try dsimp only at hSw); go_simp; try with_reducible rfl
          try simp only [Act.put, List.setIfInBounds_toArray, List.set_cons_zero, List.set_cons_succ]
          refine held_take (i := 15) (v := ?_) rfl (by kernel_rfl) (by kernel_rfl) (by kernel_rfl) (fun _ _ _ h => h) (Or.inl ⟨by rfl, ?_⟩) (by assumption) ?_
          rotate_left
          · intro w hSw; (try dsimp only at hSw); go_simp; try with_reducible rfl
          try simp only [Act.put, List.setIfInBounds_toArray, List.set_cons_zero, List.set_cons_succ]
          refine held_ready (i := 16) rfl (by kernel_rfl) (fun K hK => ?_)
          go_simp
          refine hK.out _ _ (cBF) (fun hHeldN => ?_)
          clear hHeld hK K
          have hHeld := hHeldN
          clear hHeldN
          try simp only [Act.put, List.setIfInBounds_toArray, List.set_cons_zero, List.set_cons_succ]
          refine wpAnyH_done (by kernel_rfl) ?_ _
          clear hHeld
          go_wp2_with fail
          go_roundw
          case rel => exact ⟨k + 1, _, by omega, by go_num, nF.out⟩
          case measure => simp [intOf]; omega
        ·
          rw [if_pos (by rfl)]
          go_simp
          refine hK.out _ _ (cBa) (fun hHeldN => ?_)
          clear hHeld hK K
          have hHeld := hHeldN
          clear hHeldN
          try simp only [Act.put, List.setIfInBounds_toArray, List.set_cons_zero, List.set_cons_succ]
          refine held_ready (i := 4) rfl (by kernel_rfl) (fun K hK => ?_)
          rw [if_pos (by rfl)]
          go_simp
          refine hK.out _ _ ((by first | exact cB | exact cBa)) (fun hHeldN => ?_)
          clear hHeld hK K
          have hHeld := hHeldN
          clear hHeldN
          try simp only [Act.put, List.setIfInBounds_toArray, List.set_cons_zero, List.set_cons_succ]
          refine held_ready (i := 13) rfl (by kernel_rfl) (fun K hK => ?_)
          rw [if_pos (by rfl)]
          refine wp_append_t (.tmp 19) (.tmp 27) rfl (w1.heap.size + 1) _ vk (bytesOf gunb k) rfl OA.out (Below.refl _ _) hsA.out _ [gunb k] rfl t1.out (by rw [ll]; simp; omega) ?_
          intro v9 w9 O9 B9 G9 H9
          rw [← sn.out] at O9
          have row9 := (B9.out.block w1.heap.size (Nat.lt_succ_self _)).trans rowA
          have nF := hNa.out.putK B9.out O9.out
          have hf : w9.frozen? ⟨w1.heap.size, 2, none⟩ = false := frozen_of_row _ _ _ _ _ row9
          have hc9 : w9.cell? ⟨w1.heap.size, 2, none⟩ = some vk := (cell_of_row _ _ 2 _ _ _ row9).trans rfl
          have cB9 : w9.cell? ⟨w1.heap.size, 1, none⟩ = some (.slice a8 n8 c8) := (cell_of_row _ _ 1 _ _ _ row9).trans rfl
          obtain ⟨a9, n9, c9, rfl⟩ := O9.out.shape
          have cBF := nF.cell.2.1
          clear row9 B9 G9 H9 O9
          replace nF := Lib.hid nF
          refine hK.out _ _ (cB9) (fun hHeldN => ?_)
          clear hHeld hK K
          have hHeld := hHeldN
          clear hHeldN
          try simp only [Act.put, List.setIfInBounds_toArray, List.set_cons_zero, List.set_cons_succ]
          refine held_take (i := 14) (v := ?_) rfl (by kernel_rfl) (by kernel_rfl) (by kernel_rfl) (fun _ _ _ h => h) (Or.inl ⟨by rfl, ?_⟩) (by assumption) ?_
          rotate_left
          · intro w hSw; (try dsimp only at hSw); go_simp; try with_reducible rfl
          try simp only [Act.put, List.setIfInBounds_toArray, List.set_cons_zero, List.set_cons_succ]
          refine held_take (i := 15) (v := ?_) rfl (by kernel_rfl) (by kernel_rfl) (by kernel_rfl) (fun _ _ _ h => h) (Or.inl ⟨by rfl, ?_⟩) (by assumption) ?_
          rotate_left
          · intro w hSw; (try dsimp only at hSw); go_simp; try with_reducible rfl
          try simp only [Act.put, List.setIfInBounds_toArray, List.set_cons_zero, List.set_cons_succ]
          refine held_ready (i := 16) rfl (by kernel_rfl) (fun K hK => ?_)
          go_simp
          refine hK.out _ _ (cBF) (fun hHeldN => ?_)
          clear hHeld hK K
          have hHeld := hHeldN
          clear hHeldN
          try simp only [Act.put, List.setIfInBounds_toArray, List.set_cons_zero, List.set_cons_succ]
          refine wpAnyH_done (by kernel_rfl) ?_ _
          clear hHeld
          go_wp2_with fail
          go_roundw
          case rel => exact ⟨k + 1, _, by omega, by go_num, nF.out⟩
          case measure => simp [intOf]; omega
    · obtain rfl : k = 256 := by omega
      simp only [show ((256 : Nat) : Int) = 256 from rfl]
      replace hN := Lib.hid hN
      go_wp2_with fail
      go_loopw [5] (fun iv wr => ∃ (q : Nat) (vw : Value), q ≤ 8 ∧ iv = .int .i64 q ∧ NewR w wr w1.heap.size vw (.slice a8 n8 c8) vk (byt key) 256 q) (fun iv _ => 8 - (intOf iv).toNat)
      case atStart => exact ⟨0, _, Nat.zero_le _, rfl, hN.out⟩
      case round =>
        clear hN
        obtain ⟨q, vw, hq8, rfl, hN⟩ := hrel
        by_cases hqt : q < 8
        · obtain ⟨z, ez⟩ : ∃ z, z = 4 * q := ⟨_, rfl⟩
          have m1 : IntKind.i64.wrap (4 * (q : Int)) = (z : Int) := by rw [IntWalk.i64_in _ (by omega)]; omega
          have m2 : IntKind.i64.wrap ((z : Int) + 4) = (z : Int) + 4 := IntWalk.i64_in _ (by omega)
          have cut := run_cut_lh (P := Try.prog) (T := 29) (e := 5) Try.underlying29 (by kernel_rfl) ak 32 ck z (z + 4) (by omega) (by omega) ((z : Int)) ((z : Int) + 4) rfl (by omega)
          rw [show z + 4 - z = 4 by omega] at cut
          have tk := cutt.out q hqt
          rw [← ez] at tk
          obtain ⟨ax, eax⟩ : ∃ ax, ax = cutA ak ck z := ⟨_, rfl⟩
          obtain ⟨cx, ecx⟩ : ∃ cx, cx = ck - z := ⟨_, rfl⟩
          rw [← eax, ← ecx] at cut tk
          have hNd := hN.below (w' := wr.drew) (Below.refl _ _).drew
          have Bal : Below wr.drew.heap.size wr.drew (wr.drew.alloc (.cells #[.slice ax 4 cx] 29)) := (Below.refl _ _).alloc (Nat.le_refl _) _
          have hNa := hNd.below Bal
          obtain ⟨vs, hvs, hvl, hve⟩ := hNa.words
          obtain ⟨cW, _, _⟩ := hNd.cell
          obtain ⟨cWa, _, _⟩ := hNa.cell
          have cW0 : wr.cell? ⟨w1.heap.size, 0, none⟩ = some vw := hN.cell.1
          have hsz : w1.heap.size < wr.heap.size := lt_of_block hN.row
          have rowA := hNa.row
          have hsA : w1.heap.size + 1 ≤ (wr.drew.alloc (.cells #[.slice ax 4 cx] 29)).heap.size := lt_of_block rowA
          have news : ∀ (j : Nat) (u : Value), [Value.slice ax 4 cx][j]? = some u → (wr.drew.alloc (.cells #[.slice ax 4 cx] 29)).cell? (Addr.add ⟨wr.heap.size, 0, none⟩ j) = some u := fun j u hj => cell_one_new wr.drew (.slice ax 4 cx) 29 j u hj
          have sizA : vs.length + 1 ≤ 1000000000 := by omega
          replace hN := Lib.hid hN
          replace hNd := Lib.hid hNd
          replace hNa := Lib.hid hNa
          replace hvs := Lib.hid hvs
          replace hve := Lib.hid hve
          replace hvl := Lib.hid hvl
          replace hsA := Lib.hid hsA
          replace Bal := Lib.hid Bal
          replace news := Lib.hid news
          replace ez := Lib.hid ez
          replace eax := Lib.hid eax
          replace ecx := Lib.hid ecx
          replace tk := Lib.hid tk
          go_wp2_with fail
          refine wp_region_held_drew (S := (fun _ => True)) (by kernel_rfl) (trivial) (fun hHeld => ?_)
          refine held_take (i := 0) (v := ?_) rfl (by kernel_rfl) (by kernel_rfl) (by kernel_rfl) (fun _ _ _ h => h) (Or.inl ⟨by rfl, ?_⟩) (by assumption) ?_
          rotate_left
          · intro w hSw; (try dsimp only at hSw); go_simp; try with_reducible rfl
          try simp only [Act.put, List.setIfInBounds_toArray, List.set_cons_zero, List.set_cons_succ]
          refine held_take (i := 1) (v := ?_) rfl (by kernel_rfl) (by kernel_rfl) (by kernel_rfl) (fun _ _ _ h => h) (Or.inl ⟨by rfl, ?_⟩) (by assumption) ?_
          rotate_left
          · intro w hSw; (try dsimp only at hSw); go_simp; try with_reducible rfl
          try simp only [Act.put, List.setIfInBounds_toArray, List.set_cons_zero, List.set_cons_succ]
          refine held_take (i := 2) (v := ?_) rfl (by kernel_rfl) (by kernel_rfl) (by kernel_rfl) (fun _ _ _ h => h) (Or.inl ⟨by rfl, ?_⟩) (by assumption) ?_
          rotate_left
          · intro w hSw; (try dsimp only at hSw); go_simp; try with_reducible rfl
          try simp only [Act.put, List.setIfInBounds_toArray, List.set_cons_zero, List.set_cons_succ]
          refine held_take (i := 3) (v := ?_) rfl (by kernel_rfl) (by kernel_rfl) (by kernel_rfl) (fun _ _ _ h => h) (Or.inl ⟨by rfl, ?_⟩) (by assumption) ?_
          rotate_left
          · intro w hSw; (try dsimp only at hSw); go_simp; try with_reducible rfl
          try simp only [Act.put, List.setIfInBounds_toArray, List.set_cons_zero, List.set_cons_succ]
          refine held_take (i := 5) (v := ?_) rfl (by kernel_rfl) (by kernel_rfl) (by kernel_rfl) (fun _ _ _ h => h) (Or.inl ⟨by rfl, ?_⟩) (by assumption) ?_
          rotate_left
          · intro w hSw; (try dsimp only at hSw); go_simp; try with_reducible rfl
          try simp only [Act.put, List.setIfInBounds_toArray, List.set_cons_zero, List.set_cons_succ]
          refine held_take (i := 6) (v := ?_) rfl (by kernel_rfl) (by kernel_rfl) (by kernel_rfl) (fun _ _ _ h => h) (Or.inl ⟨by rfl, ?_⟩) (by assumption) ?_
          rotate_left
          · intro w hSw; (try dsimp only at hSw); go_simp; try with_reducible rfl
          try simp only [Act.put, List.setIfInBounds_toArray, List.set_cons_zero, List.set_cons_succ]
          refine held_take (i := 7) (v := ?_) rfl (by kernel_rfl) (by kernel_rfl) (by kernel_rfl) (fun _ _ _ h => h) (Or.inl ⟨by rfl, ?_⟩) (by assumption) ?_
          rotate_left
          · intro w hSw; (try dsimp only at hSw); go_simp; try with_reducible rfl
          try simp only [Act.put, List.setIfInBounds_toArray, List.set_cons_zero, List.set_cons_succ]
          refine held_take (i := 8) (v := ?_) rfl (by kernel_rfl) (by kernel_rfl) (by kernel_rfl) (fun _ _ _ h => h) (Or.inl ⟨by rfl, ?_⟩) (by assumption) ?_
          rotate_left
          · intro w hSw; (try dsimp only at hSw); go_simp; try with_reducible rfl
          try simp only [Act.put, List.setIfInBounds_toArray, List.set_cons_zero, List.set_cons_succ]
          refine held_take (i := 9) (v := ?_) rfl (by kernel_rfl) (by kernel_rfl) (by kernel_rfl) (fun _ _ _ h => h) (Or.inl ⟨by rfl, ?_⟩) (by assumption) ?_
          rotate_left
          · intro w hSw; (try dsimp only at hSw); go_simp; try with_reducible rfl
          try simp only [Act.put, List.setIfInBounds_toArray, List.set_cons_zero, List.set_cons_succ]
          refine held_take (i := 10) (v := ?_) rfl (by kernel_rfl) (by kernel_rfl) (by kernel_rfl) (fun _ _ _ h => h) (Or.inl ⟨by rfl, ?_⟩) (by assumption) ?_
          rotate_left
          · intro w hSw; (try dsimp only at hSw); go_simp; try with_reducible rfl
          try simp only [Act.put, List.setIfInBounds_toArray, List.set_cons_zero, List.set_cons_succ]
          refine held_take (i := 11) (v := ?_) rfl (by kernel_rfl) (by kernel_rfl) (by kernel_rfl) (fun _ _ _ h => h) (Or.inl ⟨by rfl, ?_⟩) (by assumption) ?_
          rotate_left
          · intro w hSw; (try dsimp only at hSw); go_simp; try with_reducible rfl
          try simp only [Act.put, List.setIfInBounds_toArray, List.set_cons_zero, List.set_cons_succ]
          refine held_readies2 (i0 := 4) (i1 := 12) rfl rfl (by kernel_rfl) (fun K hK => ?_) (fun K hK => ?_)
          ·
            rw [if_pos (by rfl)]
            go_simp
            refine hK.out _ _ (trivial) (fun hHeldN => ?_)
            clear hHeld hK K
            have hHeld := hHeldN
            clear hHeldN
            try simp only [Act.put, List.setIfInBounds_toArray, List.set_cons_zero, List.set_cons_succ]
            refine held_ready (i := 12) rfl (by kernel_rfl) (fun K hK => ?_)
            rw [if_pos (by rfl)]
            go_simp
            refine hK.out _ _ (trivial) (fun hHeldN => ?_)
            clear hHeld hK K
            have hHeld := hHeldN
            clear hHeldN
            try simp only [Act.put, List.setIfInBounds_toArray, List.set_cons_zero, List.set_cons_succ]
            refine held_ready (i := 13) rfl (by kernel_rfl) (fun K hK => ?_)
            refine step_append_y rfl (.tmp 39) (.tmp 47) 42 rfl 29 Try.underlying42 (.slice none 0 0) 24 infoRow5 rfl (by decide) (w1.heap.size + 1) vw vs rfl hvs.out hsA.out ⟨wr.heap.size, 0, none⟩ 1 1 [.slice ax 4 cx] rfl rfl news.out (by intro u hu; simp at hu; subst hu; rfl) sizA ?_
            intro v9 w9 O9 G9 A9 R9
            have B9 := below_grown hvs.out hsA.out G9.out
            have nF := hNa.out.putW hvs.out hvl.out hve.out (.inl tk.out) B9 G9.out O9.out
            have row9 := (B9.block w1.heap.size (Nat.lt_succ_self _)).trans rowA
            have hf : w9.frozen? ⟨w1.heap.size, 0, none⟩ = false := frozen_of_row _ _ _ _ _ row9
            have hc9 : w9.cell? ⟨w1.heap.size, 0, none⟩ = some vw := (cell_of_row _ _ 0 _ _ _ row9).trans rfl
            obtain ⟨a9, n9, c9, rfl⟩ := O9.out.shape
            clear row9 B9 G9 A9 R9 O9
            replace nF := Lib.hid nF
            refine hK.out _ _ (trivial) (fun hHeldN => ?_)
            clear hHeld hK K
            have hHeld := hHeldN
            clear hHeldN
            try simp only [Act.put, List.setIfInBounds_toArray, List.set_cons_zero, List.set_cons_succ]
            refine held_take (i := 14) (v := ?_) rfl (by kernel_rfl) (by kernel_rfl) (by kernel_rfl) (fun _ _ _ h => h) (Or.inl ⟨by rfl, ?_⟩) (by assumption) ?_
            rotate_left
            · intro w hSw; (try dsimp only at hSw); go_simp; try with_reducible rfl
            try simp only [Act.put, List.setIfInBounds_toArray, List.set_cons_zero, List.set_cons_succ]
            refine held_take (i := 15) (v := ?_) rfl (by kernel_rfl) (by kernel_rfl) (by kernel_rfl) (fun _ _ _ h => h) (Or.inl ⟨by rfl, ?_⟩) (by assumption) ?_
            rotate_left
            · intro w hSw; (try dsimp only at hSw); go_simp; try with_reducible rfl
            try simp only [Act.put, List.setIfInBounds_toArray, List.set_cons_zero, List.set_cons_succ]
            refine held_ready (i := 16) rfl (by kernel_rfl) (fun K hK => ?_)
            go_simp
            refine hK.out _ _ (trivial) (fun hHeldN => ?_)
            clear hHeld hK K
            have hHeld := hHeldN
            clear hHeldN
            try simp only [Act.put, List.setIfInBounds_toArray, List.set_cons_zero, List.set_cons_succ]
            refine wpAnyH_done (by kernel_rfl) ?_ _
            clear hHeld
            go_wp2_with fail
            go_roundw
            case rel => exact ⟨q + 1, _, by omega, by go_num, nF.out⟩
            case measure => simp [intOf]; omega
          ·
            rw [if_pos (by rfl)]
            go_simp
            refine hK.out _ _ (trivial) (fun hHeldN => ?_)
            clear hHeld hK K
            have hHeld := hHeldN
            clear hHeldN
            try simp only [Act.put, List.setIfInBounds_toArray, List.set_cons_zero, List.set_cons_succ]
            refine held_ready (i := 4) rfl (by kernel_rfl) (fun K hK => ?_)
            rw [if_pos (by rfl)]
            go_simp
            refine hK.out _ _ (trivial) (fun hHeldN => ?_)
            clear hHeld hK K
            have hHeld := hHeldN
            clear hHeldN
            try simp only [Act.put, List.setIfInBounds_toArray, List.set_cons_zero, List.set_cons_succ]
            refine held_ready (i := 13) rfl (by kernel_rfl) (fun K hK => ?_)
            refine step_append_y rfl (.tmp 39) (.tmp 47) 42 rfl 29 Try.underlying42 (.slice none 0 0) 24 infoRow5 rfl (by decide) (w1.heap.size + 1) vw vs rfl hvs.out hsA.out ⟨wr.heap.size, 0, none⟩ 1 1 [.slice ax 4 cx] rfl rfl news.out (by intro u hu; simp at hu; subst hu; rfl) sizA ?_
            intro v9 w9 O9 G9 A9 R9
            have B9 := below_grown hvs.out hsA.out G9.out
            have nF := hNa.out.putW hvs.out hvl.out hve.out (.inl tk.out) B9 G9.out O9.out
            have row9 := (B9.block w1.heap.size (Nat.lt_succ_self _)).trans rowA
            have hf : w9.frozen? ⟨w1.heap.size, 0, none⟩ = false := frozen_of_row _ _ _ _ _ row9
            have hc9 : w9.cell? ⟨w1.heap.size, 0, none⟩ = some vw := (cell_of_row _ _ 0 _ _ _ row9).trans rfl
            obtain ⟨a9, n9, c9, rfl⟩ := O9.out.shape
            clear row9 B9 G9 A9 R9 O9
            replace nF := Lib.hid nF
            refine hK.out _ _ (trivial) (fun hHeldN => ?_)
            clear hHeld hK K
            have hHeld := hHeldN
            clear hHeldN
            try simp only [Act.put, List.setIfInBounds_toArray, List.set_cons_zero, List.set_cons_succ]
            refine held_take (i := 14) (v := ?_) rfl (by kernel_rfl) (by kernel_rfl) (by kernel_rfl) (fun _ _ _ h => h) (Or.inl ⟨by rfl, ?_⟩) (by assumption) ?_
            rotate_left
            · intro w hSw; (try dsimp only at hSw); go_simp; try with_reducible rfl
            try simp only [Act.put, List.setIfInBounds_toArray, List.set_cons_zero, List.set_cons_succ]
            refine held_take (i := 15) (v := ?_) rfl (by kernel_rfl) (by kernel_rfl) (by kernel_rfl) (fun _ _ _ h => h) (Or.inl ⟨by rfl, ?_⟩) (by assumption) ?_
            rotate_left
            · intro w hSw; (try dsimp only at hSw); go_simp; try with_reducible rfl
            try simp only [Act.put, List.setIfInBounds_toArray, List.set_cons_zero, List.set_cons_succ]
            refine held_ready (i := 16) rfl (by kernel_rfl) (fun K hK => ?_)
            go_simp
            refine hK.out _ _ (trivial) (fun hHeldN => ?_)
            clear hHeld hK K
            have hHeld := hHeldN
            clear hHeldN
            try simp only [Act.put, List.setIfInBounds_toArray, List.set_cons_zero, List.set_cons_succ]
            refine wpAnyH_done (by kernel_rfl) ?_ _
            clear hHeld
            go_wp2_with fail
            go_roundw
            case rel => exact ⟨q + 1, _, by omega, by go_num, nF.out⟩
            case measure => simp [intOf]; omega
        · obtain rfl : q = 8 := by omega
          simp only [show ((8 : Nat) : Int) = 8 from rfl]
          replace hN := Lib.hid hN
          go_wp2_with fail
          go_loopw [6] (fun iv wr => ∃ (i : Nat) (vw : Value), 8 ≤ i ∧ i ≤ 60 ∧ iv = .int .i64 i ∧ NewR w wr w1.heap.size vw (.slice a8 n8 c8) vk (byt key) 256 i) (fun iv _ => 60 - (intOf iv).toNat)
          case atStart => exact ⟨8, _, Nat.le_refl _, by decide, rfl, hN.out⟩
          case round =>
            clear hN vw
            obtain ⟨i, vw, h8, h60, rfl, hN⟩ := hrel
            by_cases hit : i < 60
            · skip
              obtain ⟨c, ec⟩ : ∃ c, c = w1.heap.size := ⟨_, rfl⟩
              rw [← ec] at hN ⊢
              obtain ⟨vs, hvs, hvl, hve⟩ := hN.words
              obtain ⟨aw, cw, rfl, cc1, _, _, _, cc5⟩ := hvs.form
              rw [hvl] at hN hvs cc1
              have cW : wr.cell? ⟨c, 0, none⟩ = some (.slice aw i cw) := hN.cell.1
              have cBx : wr.cell? ⟨c, 1, none⟩ = some (.slice a8 n8 c8) := hN.cell.2.1
              have hszc : c < wr.heap.size := lt_of_block hN.row
              obtain ⟨p, ep⟩ : ∃ p, p = i - 1 := ⟨_, rfl⟩
              obtain ⟨m, em⟩ : ∃ m, m = i - 8 := ⟨_, rfl⟩
              obtain ⟨vp, evp⟩ : ∃ x, vs[p]? = some x := ⟨vs[p]'(by omega), List.getElem?_eq_getElem _⟩
              obtain ⟨vm, evm⟩ : ∃ x, vs[m]? = some x := ⟨vs[m]'(by omega), List.getElem?_eq_getElem _⟩
              obtain ⟨g, rfl, cP, _⟩ := cc5 p _ evp
              obtain ⟨g', eg', cM, _⟩ := cc5 m _ evm
              obtain rfl : g = g' := by injection eg' with e; injection e
              have wP := hve p _ evp
              have wM := hve m _ evm
              have tP := wP.text hN.low
              have tM := wM.text hN.low
              obtain ⟨aP, cp, rfl, nP⟩ := tP.nth
              obtain ⟨aM, cm, rfl, nM⟩ := tM.nth
              rw [length_wd] at cP nP tP cM nM tM wP wM
              have f1 : (i : Int) - 1 = (p : Int) := by omega
              have f1' : IntKind.i64.wrap ((i : Int) - 1) = (p : Int) := by rw [IntWalk.i64_in _ (by omega)]; omega
              have f2 : (p : Int) < (i : Int) := by omega
              have f3 : (m : Int) < (i : Int) := by omega
              have f4 : (i : Int) - 8 = (m : Int) := by omega
              have f4' : IntKind.i64.wrap ((i : Int) - 8) = (m : Int) := by rw [IntWalk.i64_in _ (by omega)]; omega
              have f5 : IntKind.i64.wrap (m : Int) = (m : Int) := IntWalk.i64_in _ (by omega)
              have d60 : decide ((i : Int) < 60) = true := decide_eq_true (by omega)
              clear eg'
              replace hN := Lib.hid hN
              replace hvs := Lib.hid hvs
              replace hvl := Lib.hid hvl
              replace hve := Lib.hid hve
              replace evp := Lib.hid evp
              replace evm := Lib.hid evm
              replace wP := Lib.hid wP
              replace wM := Lib.hid wM
              replace tP := Lib.hid tP
              replace tM := Lib.hid tM
              replace nP := Lib.hid nP
              replace nM := Lib.hid nM
              replace ep := Lib.hid ep
              replace em := Lib.hid em
              replace ec := Lib.hid ec
              obtain ⟨r, er⟩ : ∃ r, r = i % 8 := ⟨_, rfl⟩
              have g8 : ((i : Int)).tmod 8 = (r : Int) := by rw [Int.tmod_eq_emod_of_nonneg (by omega)]; omega
              by_cases r0 : r = 0
              · subst r0
                obtain ⟨ob, oo, rfl, q0⟩ := nP.out 0 (by decide)
                have qs : ∀ k, k < 4 → wr.cell? ⟨ob, oo + k, none⟩ = some (.int .u8 (byt (wd (byt key) p) k : Int)) := fun k hk => by
                  obtain ⟨ob', oo', e, q⟩ := nP.out k hk
                  cases e
                  exact q
                have q1 := qs 1 (by decide)
                have q2 := qs 2 (by decide)
                have q3 := qs 3 (by decide)
                rw [Nat.add_zero] at q0
                clear qs
                have bz := box_zero (byt key) (i := i) er.symm
                rw [← ep.out] at bz
                have ly0 := byt_lt (wd_small hsb.out p) 0
                have ly1 := byt_lt (wd_small hsb.out p) 1
                have ly2 := byt_lt (wd_small hsb.out p) 2
                have ly3 := byt_lt (wd_small hsb.out p) 3
                generalize byt (wd (byt key) p) 0 = y0 at *
                generalize byt (wd (byt key) p) 1 = y1 at *
                generalize byt (wd (byt key) p) 2 = y2 at *
                generalize byt (wd (byt key) p) 3 = y3 at *
                have tl := litL (wx := wr.drew) (l := [y1, y2, y3, y0]) (by simp; omega) (by simp)
                have Bal : Below wr.heap.size wr (wr.drew.alloc (.cells (u8s [y1, y2, y3, y0]) 5)) := (Below.refl _ _).drew.alloc (Nat.le_refl _) _
                have hNa := hN.out.below Bal
                have cb := rboxed_core _ c _ hNa.cell.2.1 (hNa.box.text (bytesOf_lt fun j hj => gbox_lt hj)) _ [y1, y2, y3, y0] tl 4 rfl (by decide)
                rw [bz] at cb
                have k0 := (Bal.cell (block_lt_of_cell q0)).trans q0
                have k1 := (Bal.cell (block_lt_of_cell q1)).trans q1
                have k2 := (Bal.cell (block_lt_of_cell q2)).trans q2
                have k3 := (Bal.cell (block_lt_of_cell q3)).trans q3
                replace cb := Lib.hid cb
                replace tl := Lib.hid tl
                replace bz := Lib.hid bz
                replace ly0 := Lib.hid ly0
                replace ly1 := Lib.hid ly1
                replace ly2 := Lib.hid ly2
                replace ly3 := Lib.hid ly3
                replace Bal := Lib.hid Bal
                replace hNa := Lib.hid hNa
                replace er := Lib.hid er
                go_wp2_with fail
                refine wp_region_held_drew (S := (fun w' => w'.cell? ⟨ob, oo, none⟩ = some (.int .u8 (y0 : Int)) ∧ w'.cell? ⟨ob, oo + 1, none⟩ = some (.int .u8 (y1 : Int)) ∧ w'.cell? ⟨ob, oo + 2, none⟩ = some (.int .u8 (y2 : Int)) ∧ w'.cell? ⟨ob, oo + 3, none⟩ = some (.int .u8 (y3 : Int)))) (by kernel_rfl) (⟨q0, q1, q2, q3⟩) (fun hHeld => ?_)
                refine held_take (i := 0) (v := ?_) rfl (by kernel_rfl) (by kernel_rfl) (by kernel_rfl) (fun _ _ _ h => h) (Or.inl ⟨by rfl, ?_⟩) (by assumption) ?_
                rotate_left
                · intro w hSw; (try dsimp only at hSw); go_simp; try with_reducible rfl
                try simp only [Act.put, List.setIfInBounds_toArray, List.set_cons_zero, List.set_cons_succ]
                refine held_take (i := 1) (v := ?_) rfl (by kernel_rfl) (by kernel_rfl) (by kernel_rfl) (fun _ _ _ h => h) (Or.inl ⟨by rfl, ?_⟩) (by assumption) ?_
                rotate_left
                · intro w hSw; (try dsimp only at hSw); go_simp; try with_reducible rfl
                try simp only [Act.put, List.setIfInBounds_toArray, List.set_cons_zero, List.set_cons_succ]
                refine held_take (i := 2) (v := ?_) rfl (by kernel_rfl) (by kernel_rfl) (by kernel_rfl) (fun _ _ _ h => h) (Or.inl ⟨by rfl, ?_⟩) (by assumption) ?_
                rotate_left
                · intro w hSw; (try dsimp only at hSw); go_simp; try with_reducible rfl
                try simp only [Act.put, List.setIfInBounds_toArray, List.set_cons_zero, List.set_cons_succ]
                refine held_take (i := 3) (v := ?_) rfl (by kernel_rfl) (by kernel_rfl) (by kernel_rfl) (fun _ _ _ h => h) (Or.inl ⟨by rfl, ?_⟩) (by assumption) ?_
                rotate_left
                · intro w hSw; (try dsimp only at hSw); go_simp; try with_reducible rfl
                try simp only [Act.put, List.setIfInBounds_toArray, List.set_cons_zero, List.set_cons_succ]
                refine held_take (i := 4) (v := ?_) rfl (by kernel_rfl) (by kernel_rfl) (by kernel_rfl) (fun _ _ _ h => h) (Or.inl ⟨by rfl, ?_⟩) (by assumption) ?_
                rotate_left
                · intro w hSw; (try dsimp only at hSw); go_simp; try with_reducible rfl
                try simp only [Act.put, List.setIfInBounds_toArray, List.set_cons_zero, List.set_cons_succ]
                refine held_take (i := 5) (v := ?_) rfl (by kernel_rfl) (by kernel_rfl) (by kernel_rfl) (fun _ _ _ h => h) (Or.inl ⟨by rfl, ?_⟩) (by assumption) ?_
                rotate_left
                · intro w hSw; (try dsimp only at hSw); go_simp; try with_reducible rfl
                try simp only [Act.put, List.setIfInBounds_toArray, List.set_cons_zero, List.set_cons_succ]
                refine held_take (i := 6) (v := ?_) rfl (by kernel_rfl) (by kernel_rfl) (by kernel_rfl) (fun _ _ _ h => h) (Or.inl ⟨by rfl, ?_⟩) (by assumption) ?_
                rotate_left
                · intro w hSw; (try dsimp only at hSw); go_simp; try with_reducible rfl
                try simp only [Act.put, List.setIfInBounds_toArray, List.set_cons_zero, List.set_cons_succ]
                refine held_take (i := 7) (v := ?_) rfl (by kernel_rfl) (by kernel_rfl) (by kernel_rfl) (fun _ _ _ h => h) (Or.inl ⟨by rfl, ?_⟩) (by assumption) ?_
                rotate_left
                · intro w hSw; (try dsimp only at hSw); go_simp; try with_reducible rfl
                try simp only [Act.put, List.setIfInBounds_toArray, List.set_cons_zero, List.set_cons_succ]
                refine held_take (i := 8) (v := ?_) rfl (by kernel_rfl) (by kernel_rfl) (by kernel_rfl) (fun _ _ _ h => h) (Or.inl ⟨by rfl, ?_⟩) (by assumption) ?_
                rotate_left
                · intro w hSw; (try dsimp only at hSw); go_simp; try with_reducible rfl
                try simp only [Act.put, List.setIfInBounds_toArray, List.set_cons_zero, List.set_cons_succ]
                refine held_take (i := 9) (v := ?_) rfl (by kernel_rfl) (by kernel_rfl) (by kernel_rfl) (fun _ _ _ h => h) (Or.inl ⟨by rfl, ?_⟩) (by assumption) ?_
                rotate_left
                · intro w hSw; (try dsimp only at hSw); go_simp; try with_reducible rfl
                try simp only [Act.put, List.setIfInBounds_toArray, List.set_cons_zero, List.set_cons_succ]
                refine held_take (i := 10) (v := ?_) rfl (by kernel_rfl) (by kernel_rfl) (by kernel_rfl) (fun _ _ _ h => h) (Or.inl ⟨by rfl, ?_⟩) (by assumption) ?_
                rotate_left
                · intro w hSw; (try dsimp only at hSw); go_simp; try with_reducible rfl
                try simp only [Act.put, List.setIfInBounds_toArray, List.set_cons_zero, List.set_cons_succ]
                refine held_take (i := 11) (v := ?_) rfl (by kernel_rfl) (by kernel_rfl) (by kernel_rfl) (fun _ _ _ h => h) (Or.inl ⟨by rfl, ?_⟩) (by assumption) ?_
                rotate_left
                · intro w hSw; (try dsimp only at hSw); go_simp; try with_reducible rfl
                try simp only [Act.put, List.setIfInBounds_toArray, List.set_cons_zero, List.set_cons_succ]
                refine held_take (i := 12) (v := ?_) rfl (by kernel_rfl) (by kernel_rfl) (by kernel_rfl) (fun _ _ _ h => h) (Or.inl ⟨by rfl, ?_⟩) (by assumption) ?_
                rotate_left
                · intro w hSw; (try dsimp only at hSw); go_simp; try with_reducible rfl
                try simp only [Act.put, List.setIfInBounds_toArray, List.set_cons_zero, List.set_cons_succ]
                refine held_ready (i := 13) rfl (by kernel_rfl) (fun K hK => ?_)
                rw [if_pos (by rfl)]
                go_simp
                refine hK.out _ _ (⟨k0, k1, k2, k3⟩) (fun hHeldN => ?_)
                clear hHeld hK K
                have hHeld := hHeldN
                clear hHeldN
                try simp only [Act.put, List.setIfInBounds_toArray, List.set_cons_zero, List.set_cons_succ]
                refine held_ready (i := 14) rfl (by kernel_rfl) (fun K hK => ?_)
                go_simp
                refine cb.out.mono ?_
                rintro e w3 ⟨v3, rfl, o3, B3⟩
                have B3z := Bal.out.trans (B3.mono Bal.out.size)
                refine hK.out _ _ (⟨(B3.cell (block_lt_of_cell k0)).trans k0, (B3.cell (block_lt_of_cell k1)).trans k1, (B3.cell (block_lt_of_cell k2)).trans k2, (B3.cell (block_lt_of_cell k3)).trans k3⟩) (fun hHeldN => ?_)
                clear hHeld hK K
                have hHeld := hHeldN
                clear hHeldN
                try simp only [Act.put, List.setIfInBounds_toArray, List.set_cons_zero, List.set_cons_succ]
                refine held_take (i := 15) (v := ?_) rfl (by kernel_rfl) (by kernel_rfl) (by kernel_rfl) (fun _ _ _ h => h) (Or.inl ⟨by rfl, ?_⟩) (by assumption) ?_
                rotate_left
                · intro w hSw; (try dsimp only at hSw); go_simp; try with_reducible rfl
                try simp only [Act.put, List.setIfInBounds_toArray, List.set_cons_zero, List.set_cons_succ]
                refine wpAnyH_done (by kernel_rfl) ?_ _
                clear hHeld
                clear k0 k1 k2 k3 q0 q1 q2 q3 cb tl bz
                have o3' : Own w3 wr.heap.size 5 v3 (u8l (bytesOf (boxW (wordsOf (byt key)) i) 4)) := o3.weaken (by simp)
                have lb4 : (u8l (bytesOf (boxW (wordsOf (byt key)) i) 4)).length = 4 := by simp [u8l, length_bytesOf]
                obtain ⟨a3, cp3, rfl, _, _, _, hb3, cl3⟩ := o3'.form
                obtain ⟨g3, rfl, cz, fz⟩ := cl3 0 (.int .u8 (boxW (wordsOf (byt key)) i 0 : Int)) (by simp [u8l, bytesOf])
                have hg3 := hb3 g3 0 rfl
                rw [lb4] at o3' ⊢
                have l1 : boxW (wordsOf (byt key)) i 0 < 256 := boxW_lt (words_lt hsb.out 60) i 0
                have l2 : gpow 2 (i / 8 - 1) < 256 := gpow_lt _ (by decide)
                have ex := u8_xor_nat _ _ l1 l2
                obtain ⟨d8, hd8⟩ : ∃ d, d = i / 8 - 1 := ⟨_, rfl⟩
                obtain ⟨e8, he8⟩ : ∃ d, d = i / 8 := ⟨_, rfl⟩
                have f9 : IntKind.i64.wrap ((i : Int) / 8) = (e8 : Int) := by rw [IntWalk.i64_in _ (by omega)]; omega
                have f12 : IntKind.i64.wrap ((e8 : Int) - 1) = (d8 : Int) := by rw [IntWalk.i64_in _ (by omega)]; omega
                have cp := rpower_any 2 d8 w3.drew (by decide) (by omega)
                rw [rpow_two (by omega)] at cp
                simp only [show ((2 : Nat) : Int) = 2 from rfl] at cp
                have nS := (o3'.drew).setU (i := 0) (x := boxW (wordsOf (byt key)) i 0 ^^^ gpow 2 (i / 8 - 1)) (length_bytesOf _ _).symm
                rw [pow_bytes _ er.out.symm] at nS
                rw [← hd8] at ex nS
                have BS : Below wr.heap.size wr (w3.drew.setCell ⟨g3, 0, none⟩ (.int .u8 ((boxW (wordsOf (byt key)) i 0 ^^^ gpow 2 d8 : Nat) : Int))) := B3z.drew.setCell (p := ⟨g3, 0, none⟩) hg3 _
                have t7 := nS.text (bytesOf_lt fun k hk => powW_lt (words_lt hsb.out 60) i k)
                generalize boxW (wordsOf (byt key)) i 0 ^^^ gpow 2 d8 = y at *
                generalize boxW (wordsOf (byt key)) i 0 = u at *
                generalize gpow 2 d8 = z at *
                clear o3 o3' B3 B3z hb3 cl3 l1 l2 nS lb4
                replace BS := Lib.hid BS
                replace t7 := Lib.hid t7
                replace hd8 := Lib.hid hd8
                replace he8 := Lib.hid he8
                replace hg3 := Lib.hid hg3
                replace cp := Lib.hid cp
                go_wp2_with fail
                apply onceW (R := fun wq => wq = w3.drew)
                case tree =>
                  intro leaf
                  refine wp_region_held_drew (S := (fun _ => True)) (by kernel_rfl) (trivial) (fun hHeld => ?_)
                  refine held_take (i := 0) (v := ?_) rfl (by kernel_rfl) (by kernel_rfl) (by kernel_rfl) (fun _ _ _ h => h) (Or.inl ⟨by rfl, ?_⟩) (by assumption) ?_
                  rotate_left
                  · intro w hSw; (try dsimp only at hSw); go_simp; try with_reducible rfl
                  try simp only [Act.put, List.setIfInBounds_toArray, List.set_cons_zero, List.set_cons_succ]
                  refine held_take (i := 1) (v := ?_) rfl (by kernel_rfl) (by kernel_rfl) (by kernel_rfl) (fun _ _ _ h => h) (Or.inl ⟨by rfl, ?_⟩) (by assumption) ?_
                  rotate_left
                  · intro w hSw; (try dsimp only at hSw); go_simp; try with_reducible rfl
                  try simp only [Act.put, List.setIfInBounds_toArray, List.set_cons_zero, List.set_cons_succ]
                  refine held_take (i := 2) (v := ?_) rfl (by kernel_rfl) (by kernel_rfl) (by kernel_rfl) (fun _ _ _ h => h) (Or.inl ⟨by rfl, ?_⟩) (by assumption) ?_
                  rotate_left
                  · intro w hSw; (try dsimp only at hSw); go_simp; try with_reducible rfl
                  try simp only [Act.put, List.setIfInBounds_toArray, List.set_cons_zero, List.set_cons_succ]
                  refine held_take (i := 4) (v := ?_) rfl (by kernel_rfl) (by kernel_rfl) (by kernel_rfl) (fun _ _ _ h => h) (Or.inl ⟨by rfl, ?_⟩) (by assumption) ?_
                  rotate_left
                  · intro w hSw; (try dsimp only at hSw); go_simp; try with_reducible rfl
                  try simp only [Act.put, List.setIfInBounds_toArray, List.set_cons_zero, List.set_cons_succ]
                  refine held_take (i := 5) (v := ?_) rfl (by kernel_rfl) (by kernel_rfl) (by kernel_rfl) (fun _ _ _ h => h) (Or.inl ⟨by rfl, ?_⟩) (by assumption) ?_
                  rotate_left
                  · intro w hSw; (try dsimp only at hSw); go_simp; try with_reducible rfl
                  try simp only [Act.put, List.setIfInBounds_toArray, List.set_cons_zero, List.set_cons_succ]
                  refine held_take (i := 6) (v := ?_) rfl (by kernel_rfl) (by kernel_rfl) (by kernel_rfl) (fun _ _ _ h => h) (Or.inl ⟨by rfl, ?_⟩) (by assumption) ?_
                  rotate_left
                  · intro w hSw; (try dsimp only at hSw); go_simp; try with_reducible rfl
                  try simp only [Act.put, List.setIfInBounds_toArray, List.set_cons_zero, List.set_cons_succ]
                  refine held_readies2 (i0 := 3) (i1 := 7) rfl rfl (by kernel_rfl) (fun K hK => ?_) (fun K hK => ?_)
                  ·
                    rw [if_pos (by rfl)]
                    go_simp
                    refine hK.out _ _ (trivial) (fun hHeldN => ?_)
                    clear hHeld hK K
                    have hHeld := hHeldN
                    clear hHeldN
                    try simp only [Act.put, List.setIfInBounds_toArray, List.set_cons_zero, List.set_cons_succ]
                    refine held_ready (i := 7) rfl (by kernel_rfl) (fun K hK => ?_)
                    go_simp
                    refine cp.out.mono ?_
                    rintro e w4 ⟨rfl, rfl⟩
                    refine hK.out _ _ (trivial) (fun hHeldN => ?_)
                    clear hHeld hK K
                    have hHeld := hHeldN
                    clear hHeldN
                    try simp only [Act.put, List.setIfInBounds_toArray, List.set_cons_zero, List.set_cons_succ]
                    exact leaf w3.drew rfl
                  ·
                    go_simp
                    refine cp.out.mono ?_
                    rintro e w4 ⟨rfl, rfl⟩
                    refine hK.out _ _ (trivial) (fun hHeldN => ?_)
                    clear hHeld hK K
                    have hHeld := hHeldN
                    clear hHeldN
                    try simp only [Act.put, List.setIfInBounds_toArray, List.set_cons_zero, List.set_cons_succ]
                    refine held_ready (i := 3) rfl (by kernel_rfl) (fun K hK => ?_)
                    rw [if_pos (by rfl)]
                    go_simp
                    refine hK.out _ _ (trivial) (fun hHeldN => ?_)
                    clear hHeld hK K
                    have hHeld := hHeldN
                    clear hHeldN
                    try simp only [Act.put, List.setIfInBounds_toArray, List.set_cons_zero, List.set_cons_succ]
                    exact leaf w3.drew rfl
                case leaf =>
                  rintro wq hwq
                  have hHeld : (fun (_ : World) => True) wq := trivial
                  change wpAnyH _ _ _ _ _ _ _ _ _
                  refine held_take (i := 8) (v := ?_) rfl (by kernel_rfl) (by kernel_rfl) (by kernel_rfl) (fun _ _ _ h => h) (Or.inl ⟨by rfl, ?_⟩) (by assumption) ?_
                  rotate_left
                  · intro w hSw; (try dsimp only at hSw); go_simp; try with_reducible rfl
                  try simp only [Act.put, List.setIfInBounds_toArray, List.set_cons_zero, List.set_cons_succ]
                  refine held_take (i := 9) (v := ?_) rfl (by kernel_rfl) (by kernel_rfl) (by kernel_rfl) (fun _ _ _ h => h) (Or.inl ⟨by rfl, ?_⟩) (by assumption) ?_
                  rotate_left
                  · intro w hSw; (try dsimp only at hSw); go_simp; try with_reducible rfl
                  try simp only [Act.put, List.setIfInBounds_toArray, List.set_cons_zero, List.set_cons_succ]
                  refine held_ready (i := 10) rfl (by kernel_rfl) (fun K hK => ?_)
                  go_simp
                  refine hK.out _ _ (trivial) (fun hHeldN => ?_)
                  clear hHeld hK K
                  have hHeld := hHeldN
                  clear hHeldN
                  try simp only [Act.put, List.setIfInBounds_toArray, List.set_cons_zero, List.set_cons_succ]
                  refine wpAnyH_done (by kernel_rfl) ?_ _
                  clear hHeld
                  obtain ⟨wz, hwz⟩ : ∃ wz, wz = (w3.setCell ⟨g3, 0, none⟩ (.int .u8 (y : Int))).drew := ⟨_, rfl⟩
                  have Bz : Hid (Below wr.heap.size wr wz) := Lib.hid (by rw [hwz]; exact BS.out)
                  replace t7 := Lib.hid (show TextAt wz _ _ by rw [hwz]; exact t7.out)
                  rw [← hwz]
                  clear hwz BS cp cz fz ex f9 f12 g8
                  have hNz := hN.out.below Bz.out
                  have hNd := hNz.below (w' := wz.drew) (Below.refl _ _).drew
                  have Bd := Bz.out.drew
                  have cWz := hNz.cell.1
                  have cMz := (Bz.out.cell (block_lt_of_cell cM)).trans cM
                  have cx := rxored_any wz.drew _ _ (wd (byt key) m) (bytesOf (powW (wordsOf (byt key)) i) 4) (tM.out.below Bd) (t7.out.below (Below.refl _ _).drew) 4 (length_wd _ _) (by simp [length_bytesOf]) (by decide)
                  have hsz2 := lt_of_block hNz.row
                  rw [em.out, wd_hi _ (by omega) hit] at cx
                  replace hNz := Lib.hid hNz
                  replace hNd := Lib.hid hNd
                  replace Bd := Lib.hid Bd
                  replace cx := Lib.hid cx
                  go_wp2_with fail
                  apply onceV (R := fun a3 n3 c3 w3 => Hid (Own w3 wz.drew.heap.size 5 (.slice a3 n3 c3) (u8l (wd (byt key) i))) ∧ Hid (Below wr.heap.size wr w3) ∧ Hid (NewR w w3 c (.slice (some ⟨g, 0, none⟩) i cw) (.slice a8 n8 c8) vk (byt key) 256 i))
                  case tree =>
                    intro leaf
                    refine wp_region_held_drew (S := (fun _ => True)) (by kernel_rfl) (trivial) (fun hHeld => ?_)
                    refine held_take (i := 0) (v := ?_) rfl (by kernel_rfl) (by kernel_rfl) (by kernel_rfl) (fun _ _ _ h => h) (Or.inl ⟨by rfl, ?_⟩) (by assumption) ?_
                    rotate_left
                    · intro w hSw; (try dsimp only at hSw); go_simp; try with_reducible rfl
                    try simp only [Act.put, List.setIfInBounds_toArray, List.set_cons_zero, List.set_cons_succ]
                    refine held_take (i := 1) (v := ?_) rfl (by kernel_rfl) (by kernel_rfl) (by kernel_rfl) (fun _ _ _ h => h) (Or.inl ⟨by rfl, ?_⟩) (by assumption) ?_
                    rotate_left
                    · intro w hSw; (try dsimp only at hSw); go_simp; try with_reducible rfl
                    try simp only [Act.put, List.setIfInBounds_toArray, List.set_cons_zero, List.set_cons_succ]
                    refine held_take (i := 2) (v := ?_) rfl (by kernel_rfl) (by kernel_rfl) (by kernel_rfl) (fun _ _ _ h => h) (Or.inl ⟨by rfl, ?_⟩) (by assumption) ?_
                    rotate_left
                    · intro w hSw; (try dsimp only at hSw); go_simp; try with_reducible rfl
                    try simp only [Act.put, List.setIfInBounds_toArray, List.set_cons_zero, List.set_cons_succ]
                    refine held_take (i := 3) (v := ?_) rfl (by kernel_rfl) (by kernel_rfl) (by kernel_rfl) (fun _ _ _ h => h) (Or.inl ⟨by rfl, ?_⟩) (by assumption) ?_
                    rotate_left
                    · intro w hSw; (try dsimp only at hSw); go_simp; try with_reducible rfl
                    try simp only [Act.put, List.setIfInBounds_toArray, List.set_cons_zero, List.set_cons_succ]
                    refine held_take (i := 5) (v := ?_) rfl (by kernel_rfl) (by kernel_rfl) (by kernel_rfl) (fun _ _ _ h => h) (Or.inl ⟨by rfl, ?_⟩) (by assumption) ?_
                    rotate_left
                    · intro w hSw; (try dsimp only at hSw); go_simp; try with_reducible rfl
                    try simp only [Act.put, List.setIfInBounds_toArray, List.set_cons_zero, List.set_cons_succ]
                    refine held_take (i := 6) (v := ?_) rfl (by kernel_rfl) (by kernel_rfl) (by kernel_rfl) (fun _ _ _ h => h) (Or.inl ⟨by rfl, ?_⟩) (by assumption) ?_
                    rotate_left
                    · intro w hSw; (try dsimp only at hSw); go_simp; try with_reducible rfl
                    try simp only [Act.put, List.setIfInBounds_toArray, List.set_cons_zero, List.set_cons_succ]
                    refine held_take (i := 7) (v := ?_) rfl (by kernel_rfl) (by kernel_rfl) (by kernel_rfl) (fun _ _ _ h => h) (Or.inl ⟨by rfl, ?_⟩) (by assumption) ?_
                    rotate_left
                    · intro w hSw; (try dsimp only at hSw); go_simp; try with_reducible rfl
                    try simp only [Act.put, List.setIfInBounds_toArray, List.set_cons_zero, List.set_cons_succ]
                    refine held_take (i := 9) (v := ?_) rfl (by kernel_rfl) (by kernel_rfl) (by kernel_rfl) (fun _ _ _ h => h) (Or.inl ⟨by rfl, ?_⟩) (by assumption) ?_
                    rotate_left
                    · intro w hSw; (try dsimp only at hSw); go_simp; try with_reducible rfl
                    try simp only [Act.put, List.setIfInBounds_toArray, List.set_cons_zero, List.set_cons_succ]
                    refine held_take (i := 10) (v := ?_) rfl (by kernel_rfl) (by kernel_rfl) (by kernel_rfl) (fun _ _ _ h => h) (Or.inl ⟨by rfl, ?_⟩) (by assumption) ?_
                    rotate_left
                    · intro w hSw; (try dsimp only at hSw); go_simp; try with_reducible rfl
                    try simp only [Act.put, List.setIfInBounds_toArray, List.set_cons_zero, List.set_cons_succ]
                    refine held_take (i := 13) (v := ?_) rfl (by kernel_rfl) (by kernel_rfl) (by kernel_rfl) (fun _ _ _ h => h) (Or.inl ⟨by rfl, ?_⟩) (by assumption) ?_
                    rotate_left
                    · intro w hSw; (try dsimp only at hSw); go_simp; try with_reducible rfl
                    try simp only [Act.put, List.setIfInBounds_toArray, List.set_cons_zero, List.set_cons_succ]
                    refine held_readies2 (i0 := 4) (i1 := 8) rfl rfl (by kernel_rfl) (fun K hK => ?_) (fun K hK => ?_)
                    ·
                      rw [if_pos (by rfl)]
                      go_simp
                      refine hK.out _ _ (trivial) (fun hHeldN => ?_)
                      clear hHeld hK K
                      have hHeld := hHeldN
                      clear hHeldN
                      try simp only [Act.put, List.setIfInBounds_toArray, List.set_cons_zero, List.set_cons_succ]
                      refine held_ready (i := 8) rfl (by kernel_rfl) (fun K hK => ?_)
                      rw [if_pos (by rfl)]
                      go_simp
                      refine hK.out _ _ (trivial) (fun hHeldN => ?_)
                      clear hHeld hK K
                      have hHeld := hHeldN
                      clear hHeldN
                      try simp only [Act.put, List.setIfInBounds_toArray, List.set_cons_zero, List.set_cons_succ]
                      refine held_take (i := 11) (v := ?_) rfl (by kernel_rfl) (by kernel_rfl) (by kernel_rfl) (fun _ _ _ h => h) (Or.inl ⟨by rfl, ?_⟩) (by assumption) ?_
                      rotate_left
                      · intro w hSw; (try dsimp only at hSw); go_simp; try with_reducible rfl
                      try simp only [Act.put, List.setIfInBounds_toArray, List.set_cons_zero, List.set_cons_succ]
                      refine held_ready (i := 12) rfl (by kernel_rfl) (fun K hK => ?_)
                      rw [if_pos (by rfl)]
                      go_simp
                      refine hK.out _ _ (trivial) (fun hHeldN => ?_)
                      clear hHeld hK K
                      have hHeld := hHeldN
                      clear hHeldN
                      try simp only [Act.put, List.setIfInBounds_toArray, List.set_cons_zero, List.set_cons_succ]
                      refine held_ready (i := 14) rfl (by kernel_rfl) (fun K hK => ?_)
                      go_simp
                      refine cx.out.mono ?_
                      rintro e w3 ⟨v3, rfl, o3, B3⟩
                      have hN3 := hNd.out.below B3
                      have c3W := hN3.cell.1
                      have hs3 := lt_of_block hN3.row
                      have B3z := Bd.out.trans (B3.mono Bd.out.size)
                      obtain ⟨a3, n3, c3, rfl⟩ := o3.shape
                      replace o3 := Lib.hid o3
                      replace hN3 := Lib.hid hN3
                      replace B3 := Lib.hid B3
                      replace B3z := Lib.hid B3z
                      refine hK.out _ _ (trivial) (fun hHeldN => ?_)
                      clear hHeld hK K
                      have hHeld := hHeldN
                      clear hHeldN
                      try simp only [Act.put, List.setIfInBounds_toArray, List.set_cons_zero, List.set_cons_succ]
                      refine held_ready (i := 15) rfl (by kernel_rfl) (fun K hK => ?_)
                      rw [if_pos (by rfl)]
                      go_simp
                      refine hK.out _ _ (trivial) (fun hHeldN => ?_)
                      clear hHeld hK K
                      have hHeld := hHeldN
                      clear hHeldN
                      try simp only [Act.put, List.setIfInBounds_toArray, List.set_cons_zero, List.set_cons_succ]
                      exact leaf a3 n3 c3 w3 ⟨o3, B3z, hN3⟩
                    ·
                      rw [if_pos (by rfl)]
                      go_simp
                      refine hK.out _ _ (trivial) (fun hHeldN => ?_)
                      clear hHeld hK K
                      have hHeld := hHeldN
                      clear hHeldN
                      try simp only [Act.put, List.setIfInBounds_toArray, List.set_cons_zero, List.set_cons_succ]
                      refine held_take (i := 11) (v := ?_) rfl (by kernel_rfl) (by kernel_rfl) (by kernel_rfl) (fun _ _ _ h => h) (Or.inl ⟨by rfl, ?_⟩) (by assumption) ?_
                      rotate_left
                      · intro w hSw; (try dsimp only at hSw); go_simp; try with_reducible rfl
                      try simp only [Act.put, List.setIfInBounds_toArray, List.set_cons_zero, List.set_cons_succ]
                      refine held_readies2 (i0 := 4) (i1 := 12) rfl rfl (by kernel_rfl) (fun K hK => ?_) (fun K hK => ?_)
                      ·
                        rw [if_pos (by rfl)]
                        go_simp
                        refine hK.out _ _ (trivial) (fun hHeldN => ?_)
                        clear hHeld hK K
                        have hHeld := hHeldN
                        clear hHeldN
                        try simp only [Act.put, List.setIfInBounds_toArray, List.set_cons_zero, List.set_cons_succ]
                        refine held_ready (i := 12) rfl (by kernel_rfl) (fun K hK => ?_)
                        rw [if_pos (by rfl)]
                        go_simp
                        refine hK.out _ _ (trivial) (fun hHeldN => ?_)
                        clear hHeld hK K
                        have hHeld := hHeldN
                        clear hHeldN
                        try simp only [Act.put, List.setIfInBounds_toArray, List.set_cons_zero, List.set_cons_succ]
                        refine held_ready (i := 14) rfl (by kernel_rfl) (fun K hK => ?_)
                        go_simp
                        refine cx.out.mono ?_
                        rintro e w3 ⟨v3, rfl, o3, B3⟩
                        have hN3 := hNd.out.below B3
                        have c3W := hN3.cell.1
                        have hs3 := lt_of_block hN3.row
                        have B3z := Bd.out.trans (B3.mono Bd.out.size)
                        obtain ⟨a3, n3, c3, rfl⟩ := o3.shape
                        replace o3 := Lib.hid o3
                        replace hN3 := Lib.hid hN3
                        replace B3 := Lib.hid B3
                        replace B3z := Lib.hid B3z
                        refine hK.out _ _ (trivial) (fun hHeldN => ?_)
                        clear hHeld hK K
                        have hHeld := hHeldN
                        clear hHeldN
                        try simp only [Act.put, List.setIfInBounds_toArray, List.set_cons_zero, List.set_cons_succ]
                        refine held_ready (i := 15) rfl (by kernel_rfl) (fun K hK => ?_)
                        rw [if_pos (by rfl)]
                        go_simp
                        refine hK.out _ _ (trivial) (fun hHeldN => ?_)
                        clear hHeld hK K
                        have hHeld := hHeldN
                        clear hHeldN
                        try simp only [Act.put, List.setIfInBounds_toArray, List.set_cons_zero, List.set_cons_succ]
                        exact leaf a3 n3 c3 w3 ⟨o3, B3z, hN3⟩
                      ·
                        rw [if_pos (by rfl)]
                        go_simp
                        refine hK.out _ _ (trivial) (fun hHeldN => ?_)
                        clear hHeld hK K
                        have hHeld := hHeldN
                        clear hHeldN
                        try simp only [Act.put, List.setIfInBounds_toArray, List.set_cons_zero, List.set_cons_succ]
                        refine held_readies2 (i0 := 4) (i1 := 14) rfl rfl (by kernel_rfl) (fun K hK => ?_) (fun K hK => ?_)
                        ·
                          rw [if_pos (by rfl)]
                          go_simp
                          refine hK.out _ _ (trivial) (fun hHeldN => ?_)
                          clear hHeld hK K
                          have hHeld := hHeldN
                          clear hHeldN
                          try simp only [Act.put, List.setIfInBounds_toArray, List.set_cons_zero, List.set_cons_succ]
                          refine held_ready (i := 14) rfl (by kernel_rfl) (fun K hK => ?_)
                          go_simp
                          refine cx.out.mono ?_
                          rintro e w3 ⟨v3, rfl, o3, B3⟩
                          have hN3 := hNd.out.below B3
                          have c3W := hN3.cell.1
                          have hs3 := lt_of_block hN3.row
                          have B3z := Bd.out.trans (B3.mono Bd.out.size)
                          obtain ⟨a3, n3, c3, rfl⟩ := o3.shape
                          replace o3 := Lib.hid o3
                          replace hN3 := Lib.hid hN3
                          replace B3 := Lib.hid B3
                          replace B3z := Lib.hid B3z
                          refine hK.out _ _ (trivial) (fun hHeldN => ?_)
                          clear hHeld hK K
                          have hHeld := hHeldN
                          clear hHeldN
                          try simp only [Act.put, List.setIfInBounds_toArray, List.set_cons_zero, List.set_cons_succ]
                          refine held_ready (i := 15) rfl (by kernel_rfl) (fun K hK => ?_)
                          rw [if_pos (by rfl)]
                          go_simp
                          refine hK.out _ _ (trivial) (fun hHeldN => ?_)
                          clear hHeld hK K
                          have hHeld := hHeldN
                          clear hHeldN
                          try simp only [Act.put, List.setIfInBounds_toArray, List.set_cons_zero, List.set_cons_succ]
                          exact leaf a3 n3 c3 w3 ⟨o3, B3z, hN3⟩
                        ·
                          go_simp
                          refine cx.out.mono ?_
                          rintro e w3 ⟨v3, rfl, o3, B3⟩
                          have hN3 := hNd.out.below B3
                          have c3W := hN3.cell.1
                          have hs3 := lt_of_block hN3.row
                          have B3z := Bd.out.trans (B3.mono Bd.out.size)
                          obtain ⟨a3, n3, c3, rfl⟩ := o3.shape
                          replace o3 := Lib.hid o3
                          replace hN3 := Lib.hid hN3
                          replace B3 := Lib.hid B3
                          replace B3z := Lib.hid B3z
                          refine hK.out _ _ (trivial) (fun hHeldN => ?_)
                          clear hHeld hK K
                          have hHeld := hHeldN
                          clear hHeldN
                          try simp only [Act.put, List.setIfInBounds_toArray, List.set_cons_zero, List.set_cons_succ]
                          refine held_readies2 (i0 := 4) (i1 := 15) rfl rfl (by kernel_rfl) (fun K hK => ?_) (fun K hK => ?_)
                          ·
                            rw [if_pos (by rfl)]
                            go_simp
                            refine hK.out _ _ (trivial) (fun hHeldN => ?_)
                            clear hHeld hK K
                            have hHeld := hHeldN
                            clear hHeldN
                            try simp only [Act.put, List.setIfInBounds_toArray, List.set_cons_zero, List.set_cons_succ]
                            refine held_ready (i := 15) rfl (by kernel_rfl) (fun K hK => ?_)
                            rw [if_pos (by rfl)]
                            go_simp
                            refine hK.out _ _ (trivial) (fun hHeldN => ?_)
                            clear hHeld hK K
                            have hHeld := hHeldN
                            clear hHeldN
                            try simp only [Act.put, List.setIfInBounds_toArray, List.set_cons_zero, List.set_cons_succ]
                            exact leaf a3 n3 c3 w3 ⟨o3, B3z, hN3⟩
                          ·
                            rw [if_pos (by rfl)]
                            go_simp
                            refine hK.out _ _ (trivial) (fun hHeldN => ?_)
                            clear hHeld hK K
                            have hHeld := hHeldN
                            clear hHeldN
                            try simp only [Act.put, List.setIfInBounds_toArray, List.set_cons_zero, List.set_cons_succ]
                            refine held_ready (i := 4) rfl (by kernel_rfl) (fun K hK => ?_)
                            rw [if_pos (by rfl)]
                            go_simp
                            refine hK.out _ _ (trivial) (fun hHeldN => ?_)
                            clear hHeld hK K
                            have hHeld := hHeldN
                            clear hHeldN
                            try simp only [Act.put, List.setIfInBounds_toArray, List.set_cons_zero, List.set_cons_succ]
                            exact leaf a3 n3 c3 w3 ⟨o3, B3z, hN3⟩
                  case leaf =>
                    rintro a3 n3 c3 w3 ⟨o3, B3z, hN3⟩
                    have hHeld : (fun (_ : World) => True) (w3.alloc (.cells #[.slice a3 n3 c3] 29)) := trivial
                    have Bal : Below w3.heap.size w3 (w3.alloc (.cells #[.slice a3 n3 c3] 29)) := (Below.refl _ _).alloc (Nat.le_refl _) _
                    have hNa := hN3.out.below Bal
                    have BA := B3z.out.trans (Bal.mono B3z.out.size)
                    have hvsA := hvs.out.below BA
                    have hveA := fun (j : Nat) (u : Value) (e : vs[j]? = some u) => (hve.out j u e).below BA
                    have rowA := hNa.row
                    have hsA : c + 1 ≤ (w3.alloc (.cells #[.slice a3 n3 c3] 29)).heap.size := lt_of_block rowA
                    have hu : Word w (w3.alloc (.cells #[.slice a3 n3 c3] 29)) c (.slice a3 n3 c3) (wd (byt key) i) := .inr ⟨(o3.out.weaken (show c + 1 ≤ wz.drew.heap.size from hsz2)).below Bal, wd_small hsb.out i⟩
                    have news : ∀ (j : Nat) (u : Value), [Value.slice a3 n3 c3][j]? = some u → (w3.alloc (.cells #[.slice a3 n3 c3] 29)).cell? (Addr.add ⟨w3.heap.size, 0, none⟩ j) = some u := fun j u hj => cell_one_new w3 (.slice a3 n3 c3) 29 j u hj
                    have sizA : vs.length + 1 ≤ 1000000000 := by have := hvl.out; omega
                    clear o3 B3z hN3 BA Bal
                    replace hNa := Lib.hid hNa
                    replace hvsA := Lib.hid hvsA
                    replace hveA := Lib.hid hveA
                    replace hsA := Lib.hid hsA
                    replace hu := Lib.hid hu
                    replace news := Lib.hid news
                    change wpAnyH _ _ _ _ _ _ _ _ _
                    refine held_ready (i := 16) rfl (by kernel_rfl) (fun K hK => ?_)
                    refine step_append_y rfl (.tmp 101) (.tmp 112) 42 rfl 29 Try.underlying42 (.slice none 0 0) 24 infoRow5 rfl (by decide) (c + 1) (.slice (some ⟨g, 0, none⟩) i cw) vs rfl hvsA.out hsA.out ⟨w3.heap.size, 0, none⟩ 1 1 [.slice a3 n3 c3] rfl rfl news.out (by intro u hu; simp at hu; subst hu; rfl) sizA ?_
                    intro v9 w9 O9 G9 A9 R9
                    have B9 := below_grown hvsA.out hsA.out G9.out
                    have nF := hNa.out.putW hvsA.out hvl.out hveA.out hu.out B9 G9.out O9.out
                    have row9 := (B9.block c (Nat.lt_succ_self _)).trans rowA
                    have hf : w9.frozen? ⟨c, 0, none⟩ = false := frozen_of_row _ _ _ _ _ row9
                    have hc9 : w9.cell? ⟨c, 0, none⟩ = some (.slice (some ⟨g, 0, none⟩) i cw) := (cell_of_row _ _ 0 _ _ _ row9).trans rfl
                    obtain ⟨a9, n9, c9, rfl⟩ := O9.out.shape
                    clear row9 B9 G9 A9 R9 O9
                    replace nF := Lib.hid nF
                    refine hK.out _ _ (trivial) (fun hHeldN => ?_)
                    clear hHeld hK K
                    have hHeld := hHeldN
                    clear hHeldN
                    try simp only [Act.put, List.setIfInBounds_toArray, List.set_cons_zero, List.set_cons_succ]
                    refine held_take (i := 17) (v := ?_) rfl (by kernel_rfl) (by kernel_rfl) (by kernel_rfl) (fun _ _ _ h => h) (Or.inl ⟨by rfl, ?_⟩) (by assumption) ?_
                    rotate_left
                    · intro w hSw; (try dsimp only at hSw); go_simp; try with_reducible rfl
                    try simp only [Act.put, List.setIfInBounds_toArray, List.set_cons_zero, List.set_cons_succ]
                    refine held_take (i := 18) (v := ?_) rfl (by kernel_rfl) (by kernel_rfl) (by kernel_rfl) (fun _ _ _ h => h) (Or.inl ⟨by rfl, ?_⟩) (by assumption) ?_
                    rotate_left
                    · intro w hSw; (try dsimp only at hSw); go_simp; try with_reducible rfl
                    try simp only [Act.put, List.setIfInBounds_toArray, List.set_cons_zero, List.set_cons_succ]
                    refine held_ready (i := 19) rfl (by kernel_rfl) (fun K hK => ?_)
                    go_simp
                    refine hK.out _ _ (trivial) (fun hHeldN => ?_)
                    clear hHeld hK K
                    have hHeld := hHeldN
                    clear hHeldN
                    try simp only [Act.put, List.setIfInBounds_toArray, List.set_cons_zero, List.set_cons_succ]
                    refine wpAnyH_done (by kernel_rfl) ?_ _
                    clear hHeld
                    go_wp2_with fail
                    go_roundw
                    case rel => exact ⟨i + 1, _, by omega, by omega, by go_num, nF.out⟩
                    case measure => simp [intOf]; omega
              · by_cases r4 : r = 4
                · subst r4
                  have cb := rboxed_core wr c _ cBx (hN.out.box.text (bytesOf_lt fun j hj => gbox_lt hj)) _ (wd (byt key) p) tP.out 4 (length_wd _ _) (by decide)
                  rw [ep.out, pow_four _ er.symm] at cb
                  replace cb := Lib.hid cb
                  replace er := Lib.hid er
                  go_wp2_with fail
                  refine cb.out.mono ?_
                  rintro e wz ⟨v7, rfl, o7, Bz⟩
                  have t7 := o7.text (bytesOf_lt fun k hk => powW_lt (words_lt hsb.out 60) i k)
                  clear cb o7
                  replace t7 := Lib.hid t7
                  replace Bz := Lib.hid Bz
                  go_wp2_with fail
                  have hNz := hN.out.below Bz.out
                  have hNd := hNz.below (w' := wz.drew) (Below.refl _ _).drew
                  have Bd := Bz.out.drew
                  have cWz := hNz.cell.1
                  have cMz := (Bz.out.cell (block_lt_of_cell cM)).trans cM
                  have cx := rxored_any wz.drew _ _ (wd (byt key) m) (bytesOf (powW (wordsOf (byt key)) i) 4) (tM.out.below Bd) (t7.out.below (Below.refl _ _).drew) 4 (length_wd _ _) (by simp [length_bytesOf]) (by decide)
                  have hsz2 := lt_of_block hNz.row
                  rw [em.out, wd_hi _ (by omega) hit] at cx
                  replace hNz := Lib.hid hNz
                  replace hNd := Lib.hid hNd
                  replace Bd := Lib.hid Bd
                  replace cx := Lib.hid cx
                  go_wp2_with fail
                  apply onceV (R := fun a3 n3 c3 w3 => Hid (Own w3 wz.drew.heap.size 5 (.slice a3 n3 c3) (u8l (wd (byt key) i))) ∧ Hid (Below wr.heap.size wr w3) ∧ Hid (NewR w w3 c (.slice (some ⟨g, 0, none⟩) i cw) (.slice a8 n8 c8) vk (byt key) 256 i))
                  case tree =>
                    intro leaf
                    refine wp_region_held_drew (S := (fun _ => True)) (by kernel_rfl) (trivial) (fun hHeld => ?_)
                    refine held_take (i := 0) (v := ?_) rfl (by kernel_rfl) (by kernel_rfl) (by kernel_rfl) (fun _ _ _ h => h) (Or.inl ⟨by rfl, ?_⟩) (by assumption) ?_
                    rotate_left
                    · intro w hSw; (try dsimp only at hSw); go_simp; try with_reducible rfl
                    try simp only [Act.put, List.setIfInBounds_toArray, List.set_cons_zero, List.set_cons_succ]
                    refine held_take (i := 1) (v := ?_) rfl (by kernel_rfl) (by kernel_rfl) (by kernel_rfl) (fun _ _ _ h => h) (Or.inl ⟨by rfl, ?_⟩) (by assumption) ?_
                    rotate_left
                    · intro w hSw; (try dsimp only at hSw); go_simp; try with_reducible rfl
                    try simp only [Act.put, List.setIfInBounds_toArray, List.set_cons_zero, List.set_cons_succ]
                    refine held_take (i := 2) (v := ?_) rfl (by kernel_rfl) (by kernel_rfl) (by kernel_rfl) (fun _ _ _ h => h) (Or.inl ⟨by rfl, ?_⟩) (by assumption) ?_
                    rotate_left
                    · intro w hSw; (try dsimp only at hSw); go_simp; try with_reducible rfl
                    try simp only [Act.put, List.setIfInBounds_toArray, List.set_cons_zero, List.set_cons_succ]
                    refine held_take (i := 3) (v := ?_) rfl (by kernel_rfl) (by kernel_rfl) (by kernel_rfl) (fun _ _ _ h => h) (Or.inl ⟨by rfl, ?_⟩) (by assumption) ?_
                    rotate_left
                    · intro w hSw; (try dsimp only at hSw); go_simp; try with_reducible rfl
                    try simp only [Act.put, List.setIfInBounds_toArray, List.set_cons_zero, List.set_cons_succ]
                    refine held_take (i := 5) (v := ?_) rfl (by kernel_rfl) (by kernel_rfl) (by kernel_rfl) (fun _ _ _ h => h) (Or.inl ⟨by rfl, ?_⟩) (by assumption) ?_
                    rotate_left
                    · intro w hSw; (try dsimp only at hSw); go_simp; try with_reducible rfl
                    try simp only [Act.put, List.setIfInBounds_toArray, List.set_cons_zero, List.set_cons_succ]
                    refine held_take (i := 6) (v := ?_) rfl (by kernel_rfl) (by kernel_rfl) (by kernel_rfl) (fun _ _ _ h => h) (Or.inl ⟨by rfl, ?_⟩) (by assumption) ?_
                    rotate_left
                    · intro w hSw; (try dsimp only at hSw); go_simp; try with_reducible rfl
                    try simp only [Act.put, List.setIfInBounds_toArray, List.set_cons_zero, List.set_cons_succ]
                    refine held_take (i := 7) (v := ?_) rfl (by kernel_rfl) (by kernel_rfl) (by kernel_rfl) (fun _ _ _ h => h) (Or.inl ⟨by rfl, ?_⟩) (by assumption) ?_
                    rotate_left
                    · intro w hSw; (try dsimp only at hSw); go_simp; try with_reducible rfl
                    try simp only [Act.put, List.setIfInBounds_toArray, List.set_cons_zero, List.set_cons_succ]
                    refine held_take (i := 9) (v := ?_) rfl (by kernel_rfl) (by kernel_rfl) (by kernel_rfl) (fun _ _ _ h => h) (Or.inl ⟨by rfl, ?_⟩) (by assumption) ?_
                    rotate_left
                    · intro w hSw; (try dsimp only at hSw); go_simp; try with_reducible rfl
                    try simp only [Act.put, List.setIfInBounds_toArray, List.set_cons_zero, List.set_cons_succ]
                    refine held_take (i := 10) (v := ?_) rfl (by kernel_rfl) (by kernel_rfl) (by kernel_rfl) (fun _ _ _ h => h) (Or.inl ⟨by rfl, ?_⟩) (by assumption) ?_
                    rotate_left
                    · intro w hSw; (try dsimp only at hSw); go_simp; try with_reducible rfl
                    try simp only [Act.put, List.setIfInBounds_toArray, List.set_cons_zero, List.set_cons_succ]
                    refine held_take (i := 13) (v := ?_) rfl (by kernel_rfl) (by kernel_rfl) (by kernel_rfl) (fun _ _ _ h => h) (Or.inl ⟨by rfl, ?_⟩) (by assumption) ?_
                    rotate_left
                    · intro w hSw; (try dsimp only at hSw); go_simp; try with_reducible rfl
                    try simp only [Act.put, List.setIfInBounds_toArray, List.set_cons_zero, List.set_cons_succ]
                    refine held_readies2 (i0 := 4) (i1 := 8) rfl rfl (by kernel_rfl) (fun K hK => ?_) (fun K hK => ?_)
                    ·
                      rw [if_pos (by rfl)]
                      go_simp
                      refine hK.out _ _ (trivial) (fun hHeldN => ?_)
                      clear hHeld hK K
                      have hHeld := hHeldN
                      clear hHeldN
                      try simp only [Act.put, List.setIfInBounds_toArray, List.set_cons_zero, List.set_cons_succ]
                      refine held_ready (i := 8) rfl (by kernel_rfl) (fun K hK => ?_)
                      rw [if_pos (by rfl)]
                      go_simp
                      refine hK.out _ _ (trivial) (fun hHeldN => ?_)
                      clear hHeld hK K
                      have hHeld := hHeldN
                      clear hHeldN
                      try simp only [Act.put, List.setIfInBounds_toArray, List.set_cons_zero, List.set_cons_succ]
                      refine held_take (i := 11) (v := ?_) rfl (by kernel_rfl) (by kernel_rfl) (by kernel_rfl) (fun _ _ _ h => h) (Or.inl ⟨by rfl, ?_⟩) (by assumption) ?_
                      rotate_left
                      · intro w hSw; (try dsimp only at hSw); go_simp; try with_reducible rfl
                      try simp only [Act.put, List.setIfInBounds_toArray, List.set_cons_zero, List.set_cons_succ]
                      refine held_ready (i := 12) rfl (by kernel_rfl) (fun K hK => ?_)
                      rw [if_pos (by rfl)]
                      go_simp
                      refine hK.out _ _ (trivial) (fun hHeldN => ?_)
                      clear hHeld hK K
                      have hHeld := hHeldN
                      clear hHeldN
                      try simp only [Act.put, List.setIfInBounds_toArray, List.set_cons_zero, List.set_cons_succ]
                      refine held_ready (i := 14) rfl (by kernel_rfl) (fun K hK => ?_)
                      go_simp
                      refine cx.out.mono ?_
                      rintro e w3 ⟨v3, rfl, o3, B3⟩
                      have hN3 := hNd.out.below B3
                      have c3W := hN3.cell.1
                      have hs3 := lt_of_block hN3.row
                      have B3z := Bd.out.trans (B3.mono Bd.out.size)
                      obtain ⟨a3, n3, c3, rfl⟩ := o3.shape
                      replace o3 := Lib.hid o3
                      replace hN3 := Lib.hid hN3
                      replace B3 := Lib.hid B3
                      replace B3z := Lib.hid B3z
                      refine hK.out _ _ (trivial) (fun hHeldN => ?_)
                      clear hHeld hK K
                      have hHeld := hHeldN
                      clear hHeldN
                      try simp only [Act.put, List.setIfInBounds_toArray, List.set_cons_zero, List.set_cons_succ]
                      refine held_ready (i := 15) rfl (by kernel_rfl) (fun K hK => ?_)
                      rw [if_pos (by rfl)]
                      go_simp
                      refine hK.out _ _ (trivial) (fun hHeldN => ?_)
                      clear hHeld hK K
                      have hHeld := hHeldN
                      clear hHeldN
                      try simp only [Act.put, List.setIfInBounds_toArray, List.set_cons_zero, List.set_cons_succ]
                      exact leaf a3 n3 c3 w3 ⟨o3, B3z, hN3⟩
                    ·
                      rw [if_pos (by rfl)]
                      go_simp
                      refine hK.out _ _ (trivial) (fun hHeldN => ?_)
                      clear hHeld hK K
                      have hHeld := hHeldN
                      clear hHeldN
                      try simp only [Act.put, List.setIfInBounds_toArray, List.set_cons_zero, List.set_cons_succ]
                      refine held_take (i := 11) (v := ?_) rfl (by kernel_rfl) (by kernel_rfl) (by kernel_rfl) (fun _ _ _ h => h) (Or.inl ⟨by rfl, ?_⟩) (by assumption) ?_
                      rotate_left
                      · intro w hSw; (try dsimp only at hSw); go_simp; try with_reducible rfl
                      try simp only [Act.put, List.setIfInBounds_toArray, List.set_cons_zero, List.set_cons_succ]
                      refine held_readies2 (i0 := 4) (i1 := 12) rfl rfl (by kernel_rfl) (fun K hK => ?_) (fun K hK => ?_)
                      ·
                        rw [if_pos (by rfl)]
                        go_simp
                        refine hK.out _ _ (trivial) (fun hHeldN => ?_)
                        clear hHeld hK K
                        have hHeld := hHeldN
                        clear hHeldN
                        try simp only [Act.put, List.setIfInBounds_toArray, List.set_cons_zero, List.set_cons_succ]
                        refine held_ready (i := 12) rfl (by kernel_rfl) (fun K hK => ?_)
                        rw [if_pos (by rfl)]
                        go_simp
                        refine hK.out _ _ (trivial) (fun hHeldN => ?_)
                        clear hHeld hK K
                        have hHeld := hHeldN
                        clear hHeldN
                        try simp only [Act.put, List.setIfInBounds_toArray, List.set_cons_zero, List.set_cons_succ]
                        refine held_ready (i := 14) rfl (by kernel_rfl) (fun K hK => ?_)
                        go_simp
                        refine cx.out.mono ?_
                        rintro e w3 ⟨v3, rfl, o3, B3⟩
                        have hN3 := hNd.out.below B3
                        have c3W := hN3.cell.1
                        have hs3 := lt_of_block hN3.row
                        have B3z := Bd.out.trans (B3.mono Bd.out.size)
                        obtain ⟨a3, n3, c3, rfl⟩ := o3.shape
                        replace o3 := Lib.hid o3
                        replace hN3 := Lib.hid hN3
                        replace B3 := Lib.hid B3
                        replace B3z := Lib.hid B3z
                        refine hK.out _ _ (trivial) (fun hHeldN => ?_)
                        clear hHeld hK K
                        have hHeld := hHeldN
                        clear hHeldN
                        try simp only [Act.put, List.setIfInBounds_toArray, List.set_cons_zero, List.set_cons_succ]
                        refine held_ready (i := 15) rfl (by kernel_rfl) (fun K hK => ?_)
                        rw [if_pos (by rfl)]
                        go_simp
                        refine hK.out _ _ (trivial) (fun hHeldN => ?_)
                        clear hHeld hK K
                        have hHeld := hHeldN
                        clear hHeldN
                        try simp only [Act.put, List.setIfInBounds_toArray, List.set_cons_zero, List.set_cons_succ]
                        exact leaf a3 n3 c3 w3 ⟨o3, B3z, hN3⟩
                      ·
                        rw [if_pos (by rfl)]
                        go_simp
                        refine hK.out _ _ (trivial) (fun hHeldN => ?_)
                        clear hHeld hK K
                        have hHeld := hHeldN
                        clear hHeldN
                        try simp only [Act.put, List.setIfInBounds_toArray, List.set_cons_zero, List.set_cons_succ]
                        refine held_readies2 (i0 := 4) (i1 := 14) rfl rfl (by kernel_rfl) (fun K hK => ?_) (fun K hK => ?_)
                        ·
                          rw [if_pos (by rfl)]
                          go_simp
                          refine hK.out _ _ (trivial) (fun hHeldN => ?_)
                          clear hHeld hK K
                          have hHeld := hHeldN
                          clear hHeldN
                          try simp only [Act.put, List.setIfInBounds_toArray, List.set_cons_zero, List.set_cons_succ]
                          refine held_ready (i := 14) rfl (by kernel_rfl) (fun K hK => ?_)
                          go_simp
                          refine cx.out.mono ?_
                          rintro e w3 ⟨v3, rfl, o3, B3⟩
                          have hN3 := hNd.out.below B3
                          have c3W := hN3.cell.1
                          have hs3 := lt_of_block hN3.row
                          have B3z := Bd.out.trans (B3.mono Bd.out.size)
                          obtain ⟨a3, n3, c3, rfl⟩ := o3.shape
                          replace o3 := Lib.hid o3
                          replace hN3 := Lib.hid hN3
                          replace B3 := Lib.hid B3
                          replace B3z := Lib.hid B3z
                          refine hK.out _ _ (trivial) (fun hHeldN => ?_)
                          clear hHeld hK K
                          have hHeld := hHeldN
                          clear hHeldN
                          try simp only [Act.put, List.setIfInBounds_toArray, List.set_cons_zero, List.set_cons_succ]
                          refine held_ready (i := 15) rfl (by kernel_rfl) (fun K hK => ?_)
                          rw [if_pos (by rfl)]
                          go_simp
                          refine hK.out _ _ (trivial) (fun hHeldN => ?_)
                          clear hHeld hK K
                          have hHeld := hHeldN
                          clear hHeldN
                          try simp only [Act.put, List.setIfInBounds_toArray, List.set_cons_zero, List.set_cons_succ]
                          exact leaf a3 n3 c3 w3 ⟨o3, B3z, hN3⟩
                        ·
                          go_simp
                          refine cx.out.mono ?_
                          rintro e w3 ⟨v3, rfl, o3, B3⟩
                          have hN3 := hNd.out.below B3
                          have c3W := hN3.cell.1
                          have hs3 := lt_of_block hN3.row
                          have B3z := Bd.out.trans (B3.mono Bd.out.size)
                          obtain ⟨a3, n3, c3, rfl⟩ := o3.shape
                          replace o3 := Lib.hid o3
                          replace hN3 := Lib.hid hN3
                          replace B3 := Lib.hid B3
                          replace B3z := Lib.hid B3z
                          refine hK.out _ _ (trivial) (fun hHeldN => ?_)
                          clear hHeld hK K
                          have hHeld := hHeldN
                          clear hHeldN
                          try simp only [Act.put, List.setIfInBounds_toArray, List.set_cons_zero, List.set_cons_succ]
                          refine held_readies2 (i0 := 4) (i1 := 15) rfl rfl (by kernel_rfl) (fun K hK => ?_) (fun K hK => ?_)
                          ·
                            rw [if_pos (by rfl)]
                            go_simp
                            refine hK.out _ _ (trivial) (fun hHeldN => ?_)
                            clear hHeld hK K
                            have hHeld := hHeldN
                            clear hHeldN
                            try simp only [Act.put, List.setIfInBounds_toArray, List.set_cons_zero, List.set_cons_succ]
                            refine held_ready (i := 15) rfl (by kernel_rfl) (fun K hK => ?_)
                            rw [if_pos (by rfl)]
                            go_simp
                            refine hK.out _ _ (trivial) (fun hHeldN => ?_)
                            clear hHeld hK K
                            have hHeld := hHeldN
                            clear hHeldN
                            try simp only [Act.put, List.setIfInBounds_toArray, List.set_cons_zero, List.set_cons_succ]
                            exact leaf a3 n3 c3 w3 ⟨o3, B3z, hN3⟩
                          ·
                            rw [if_pos (by rfl)]
                            go_simp
                            refine hK.out _ _ (trivial) (fun hHeldN => ?_)
                            clear hHeld hK K
                            have hHeld := hHeldN
                            clear hHeldN
                            try simp only [Act.put, List.setIfInBounds_toArray, List.set_cons_zero, List.set_cons_succ]
                            refine held_ready (i := 4) rfl (by kernel_rfl) (fun K hK => ?_)
                            rw [if_pos (by rfl)]
                            go_simp
                            refine hK.out _ _ (trivial) (fun hHeldN => ?_)
                            clear hHeld hK K
                            have hHeld := hHeldN
                            clear hHeldN
                            try simp only [Act.put, List.setIfInBounds_toArray, List.set_cons_zero, List.set_cons_succ]
                            exact leaf a3 n3 c3 w3 ⟨o3, B3z, hN3⟩
                  case leaf =>
                    rintro a3 n3 c3 w3 ⟨o3, B3z, hN3⟩
                    have hHeld : (fun (_ : World) => True) (w3.alloc (.cells #[.slice a3 n3 c3] 29)) := trivial
                    have Bal : Below w3.heap.size w3 (w3.alloc (.cells #[.slice a3 n3 c3] 29)) := (Below.refl _ _).alloc (Nat.le_refl _) _
                    have hNa := hN3.out.below Bal
                    have BA := B3z.out.trans (Bal.mono B3z.out.size)
                    have hvsA := hvs.out.below BA
                    have hveA := fun (j : Nat) (u : Value) (e : vs[j]? = some u) => (hve.out j u e).below BA
                    have rowA := hNa.row
                    have hsA : c + 1 ≤ (w3.alloc (.cells #[.slice a3 n3 c3] 29)).heap.size := lt_of_block rowA
                    have hu : Word w (w3.alloc (.cells #[.slice a3 n3 c3] 29)) c (.slice a3 n3 c3) (wd (byt key) i) := .inr ⟨(o3.out.weaken (show c + 1 ≤ wz.drew.heap.size from hsz2)).below Bal, wd_small hsb.out i⟩
                    have news : ∀ (j : Nat) (u : Value), [Value.slice a3 n3 c3][j]? = some u → (w3.alloc (.cells #[.slice a3 n3 c3] 29)).cell? (Addr.add ⟨w3.heap.size, 0, none⟩ j) = some u := fun j u hj => cell_one_new w3 (.slice a3 n3 c3) 29 j u hj
                    have sizA : vs.length + 1 ≤ 1000000000 := by have := hvl.out; omega
                    clear o3 B3z hN3 BA Bal
                    replace hNa := Lib.hid hNa
                    replace hvsA := Lib.hid hvsA
                    replace hveA := Lib.hid hveA
                    replace hsA := Lib.hid hsA
                    replace hu := Lib.hid hu
                    replace news := Lib.hid news
                    change wpAnyH _ _ _ _ _ _ _ _ _
                    refine held_ready (i := 16) rfl (by kernel_rfl) (fun K hK => ?_)
                    refine step_append_y rfl (.tmp 101) (.tmp 112) 42 rfl 29 Try.underlying42 (.slice none 0 0) 24 infoRow5 rfl (by decide) (c + 1) (.slice (some ⟨g, 0, none⟩) i cw) vs rfl hvsA.out hsA.out ⟨w3.heap.size, 0, none⟩ 1 1 [.slice a3 n3 c3] rfl rfl news.out (by intro u hu; simp at hu; subst hu; rfl) sizA ?_
                    intro v9 w9 O9 G9 A9 R9
                    have B9 := below_grown hvsA.out hsA.out G9.out
                    have nF := hNa.out.putW hvsA.out hvl.out hveA.out hu.out B9 G9.out O9.out
                    have row9 := (B9.block c (Nat.lt_succ_self _)).trans rowA
                    have hf : w9.frozen? ⟨c, 0, none⟩ = false := frozen_of_row _ _ _ _ _ row9
                    have hc9 : w9.cell? ⟨c, 0, none⟩ = some (.slice (some ⟨g, 0, none⟩) i cw) := (cell_of_row _ _ 0 _ _ _ row9).trans rfl
                    obtain ⟨a9, n9, c9, rfl⟩ := O9.out.shape
                    clear row9 B9 G9 A9 R9 O9
                    replace nF := Lib.hid nF
                    refine hK.out _ _ (trivial) (fun hHeldN => ?_)
                    clear hHeld hK K
                    have hHeld := hHeldN
                    clear hHeldN
                    try simp only [Act.put, List.setIfInBounds_toArray, List.set_cons_zero, List.set_cons_succ]
                    refine held_take (i := 17) (v := ?_) rfl (by kernel_rfl) (by kernel_rfl) (by kernel_rfl) (fun _ _ _ h => h) (Or.inl ⟨by rfl, ?_⟩) (by assumption) ?_
                    rotate_left
                    · intro w hSw; (try dsimp only at hSw); go_simp; try with_reducible rfl
                    try simp only [Act.put, List.setIfInBounds_toArray, List.set_cons_zero, List.set_cons_succ]
                    refine held_take (i := 18) (v := ?_) rfl (by kernel_rfl) (by kernel_rfl) (by kernel_rfl) (fun _ _ _ h => h) (Or.inl ⟨by rfl, ?_⟩) (by assumption) ?_
                    rotate_left
                    · intro w hSw; (try dsimp only at hSw); go_simp; try with_reducible rfl
                    try simp only [Act.put, List.setIfInBounds_toArray, List.set_cons_zero, List.set_cons_succ]
                    refine held_ready (i := 19) rfl (by kernel_rfl) (fun K hK => ?_)
                    go_simp
                    refine hK.out _ _ (trivial) (fun hHeldN => ?_)
                    clear hHeld hK K
                    have hHeld := hHeldN
                    clear hHeldN
                    try simp only [Act.put, List.setIfInBounds_toArray, List.set_cons_zero, List.set_cons_succ]
                    refine wpAnyH_done (by kernel_rfl) ?_ _
                    clear hHeld
                    go_wp2_with fail
                    go_roundw
                    case rel => exact ⟨i + 1, _, by omega, by omega, by go_num, nF.out⟩
                    case measure => simp [intOf]; omega
                · have n0 : ((r : Int) == 0) = false := by simp; omega
                  have n4 : ((r : Int) == 4) = false := by simp; omega
                  have t7 := tP
                  rw [show p = i - 1 from ep.out, pow_else _ (by omega) (by omega)] at t7
                  obtain ⟨wz, hwz⟩ : ∃ wz, wz = wr := ⟨_, rfl⟩
                  have Bz : Hid (Below wr.heap.size wr wz) := Lib.hid (by rw [hwz]; exact Below.refl _ _)
                  replace t7 := Lib.hid (show TextAt wz _ _ by rw [hwz]; exact t7.out)
                  clear er
                  go_wp2_with fail
                  rw [← hwz]
                  clear hwz
                  have hNz := hN.out.below Bz.out
                  have hNd := hNz.below (w' := wz.drew) (Below.refl _ _).drew
                  have Bd := Bz.out.drew
                  have cWz := hNz.cell.1
                  have cMz := (Bz.out.cell (block_lt_of_cell cM)).trans cM
                  have cx := rxored_any wz.drew _ _ (wd (byt key) m) (bytesOf (powW (wordsOf (byt key)) i) 4) (tM.out.below Bd) (t7.out.below (Below.refl _ _).drew) 4 (length_wd _ _) (by simp [length_bytesOf]) (by decide)
                  have hsz2 := lt_of_block hNz.row
                  rw [em.out, wd_hi _ (by omega) hit] at cx
                  replace hNz := Lib.hid hNz
                  replace hNd := Lib.hid hNd
                  replace Bd := Lib.hid Bd
                  replace cx := Lib.hid cx
                  go_wp2_with fail
                  apply onceV (R := fun a3 n3 c3 w3 => Hid (Own w3 wz.drew.heap.size 5 (.slice a3 n3 c3) (u8l (wd (byt key) i))) ∧ Hid (Below wr.heap.size wr w3) ∧ Hid (NewR w w3 c (.slice (some ⟨g, 0, none⟩) i cw) (.slice a8 n8 c8) vk (byt key) 256 i))
                  case tree =>
                    intro leaf
                    refine wp_region_held_drew (S := (fun _ => True)) (by kernel_rfl) (trivial) (fun hHeld => ?_)
                    refine held_take (i := 0) (v := ?_) rfl (by kernel_rfl) (by kernel_rfl) (by kernel_rfl) (fun _ _ _ h => h) (Or.inl ⟨by rfl, ?_⟩) (by assumption) ?_
                    rotate_left
                    · intro w hSw; (try dsimp only at hSw); go_simp; try with_reducible rfl
                    try simp only [Act.put, List.setIfInBounds_toArray, List.set_cons_zero, List.set_cons_succ]
                    refine held_take (i := 1) (v := ?_) rfl (by kernel_rfl) (by kernel_rfl) (by kernel_rfl) (fun _ _ _ h => h) (Or.inl ⟨by rfl, ?_⟩) (by assumption) ?_
                    rotate_left
                    · intro w hSw; (try dsimp only at hSw); go_simp; try with_reducible rfl
                    try simp only [Act.put, List.setIfInBounds_toArray, List.set_cons_zero, List.set_cons_succ]
                    refine held_take (i := 2) (v := ?_) rfl (by kernel_rfl) (by kernel_rfl) (by kernel_rfl) (fun _ _ _ h => h) (Or.inl ⟨by rfl, ?_⟩) (by assumption) ?_
                    rotate_left
                    · intro w hSw; (try dsimp only at hSw); go_simp; try with_reducible rfl
                    try simp only [Act.put, List.setIfInBounds_toArray, List.set_cons_zero, List.set_cons_succ]
                    refine held_take (i := 3) (v := ?_) rfl (by kernel_rfl) (by kernel_rfl) (by kernel_rfl) (fun _ _ _ h => h) (Or.inl ⟨by rfl, ?_⟩) (by assumption) ?_
                    rotate_left
                    · intro w hSw; (try dsimp only at hSw); go_simp; try with_reducible rfl
                    try simp only [Act.put, List.setIfInBounds_toArray, List.set_cons_zero, List.set_cons_succ]
                    refine held_take (i := 5) (v := ?_) rfl (by kernel_rfl) (by kernel_rfl) (by kernel_rfl) (fun _ _ _ h => h) (Or.inl ⟨by rfl, ?_⟩) (by assumption) ?_
                    rotate_left
                    · intro w hSw; (try dsimp only at hSw); go_simp; try with_reducible rfl
                    try simp only [Act.put, List.setIfInBounds_toArray, List.set_cons_zero, List.set_cons_succ]
                    refine held_take (i := 6) (v := ?_) rfl (by kernel_rfl) (by kernel_rfl) (by kernel_rfl) (fun _ _ _ h => h) (Or.inl ⟨by rfl, ?_⟩) (by assumption) ?_
                    rotate_left
                    · intro w hSw; (try dsimp only at hSw); go_simp; try with_reducible rfl
                    try simp only [Act.put, List.setIfInBounds_toArray, List.set_cons_zero, List.set_cons_succ]
                    refine held_take (i := 7) (v := ?_) rfl (by kernel_rfl) (by kernel_rfl) (by kernel_rfl) (fun _ _ _ h => h) (Or.inl ⟨by rfl, ?_⟩) (by assumption) ?_
                    rotate_left
                    · intro w hSw; (try dsimp only at hSw); go_simp; try with_reducible rfl
                    try simp only [Act.put, List.setIfInBounds_toArray, List.set_cons_zero, List.set_cons_succ]
                    refine held_take (i := 9) (v := ?_) rfl (by kernel_rfl) (by kernel_rfl) (by kernel_rfl) (fun _ _ _ h => h) (Or.inl ⟨by rfl, ?_⟩) (by assumption) ?_
                    rotate_left
                    · intro w hSw; (try dsimp only at hSw); go_simp; try with_reducible rfl
                    try simp only [Act.put, List.setIfInBounds_toArray, List.set_cons_zero, List.set_cons_succ]
                    refine held_take (i := 10) (v := ?_) rfl (by kernel_rfl) (by kernel_rfl) (by kernel_rfl) (fun _ _ _ h => h) (Or.inl ⟨by rfl, ?_⟩) (by assumption) ?_
                    rotate_left
                    · intro w hSw; (try dsimp only at hSw); go_simp; try with_reducible rfl
                    try simp only [Act.put, List.setIfInBounds_toArray, List.set_cons_zero, List.set_cons_succ]
                    refine held_take (i := 13) (v := ?_) rfl (by kernel_rfl) (by kernel_rfl) (by kernel_rfl) (fun _ _ _ h => h) (Or.inl ⟨by rfl, ?_⟩) (by assumption) ?_
                    rotate_left
                    · intro w hSw; (try dsimp only at hSw); go_simp; try with_reducible rfl
                    try simp only [Act.put, List.setIfInBounds_toArray, List.set_cons_zero, List.set_cons_succ]
                    refine held_readies2 (i0 := 4) (i1 := 8) rfl rfl (by kernel_rfl) (fun K hK => ?_) (fun K hK => ?_)
                    ·
                      rw [if_pos (by rfl)]
                      go_simp
                      refine hK.out _ _ (trivial) (fun hHeldN => ?_)
                      clear hHeld hK K
                      have hHeld := hHeldN
                      clear hHeldN
                      try simp only [Act.put, List.setIfInBounds_toArray, List.set_cons_zero, List.set_cons_succ]
                      refine held_ready (i := 8) rfl (by kernel_rfl) (fun K hK => ?_)
                      rw [if_pos (by rfl)]
                      go_simp
                      refine hK.out _ _ (trivial) (fun hHeldN => ?_)
                      clear hHeld hK K
                      have hHeld := hHeldN
                      clear hHeldN
                      try simp only [Act.put, List.setIfInBounds_toArray, List.set_cons_zero, List.set_cons_succ]
                      refine held_take (i := 11) (v := ?_) rfl (by kernel_rfl) (by kernel_rfl) (by kernel_rfl) (fun _ _ _ h => h) (Or.inl ⟨by rfl, ?_⟩) (by assumption) ?_
                      rotate_left
                      · intro w hSw; (try dsimp only at hSw); go_simp; try with_reducible rfl
                      try simp only [Act.put, List.setIfInBounds_toArray, List.set_cons_zero, List.set_cons_succ]
                      refine held_ready (i := 12) rfl (by kernel_rfl) (fun K hK => ?_)
                      rw [if_pos (by rfl)]
                      go_simp
                      refine hK.out _ _ (trivial) (fun hHeldN => ?_)
                      clear hHeld hK K
                      have hHeld := hHeldN
                      clear hHeldN
                      try simp only [Act.put, List.setIfInBounds_toArray, List.set_cons_zero, List.set_cons_succ]
                      refine held_ready (i := 14) rfl (by kernel_rfl) (fun K hK => ?_)
                      go_simp
                      refine cx.out.mono ?_
                      rintro e w3 ⟨v3, rfl, o3, B3⟩
                      have hN3 := hNd.out.below B3
                      have c3W := hN3.cell.1
                      have hs3 := lt_of_block hN3.row
                      have B3z := Bd.out.trans (B3.mono Bd.out.size)
                      obtain ⟨a3, n3, c3, rfl⟩ := o3.shape
                      replace o3 := Lib.hid o3
                      replace hN3 := Lib.hid hN3
                      replace B3 := Lib.hid B3
                      replace B3z := Lib.hid B3z
                      refine hK.out _ _ (trivial) (fun hHeldN => ?_)
                      clear hHeld hK K
                      have hHeld := hHeldN
                      clear hHeldN
                      try simp only [Act.put, List.setIfInBounds_toArray, List.set_cons_zero, List.set_cons_succ]
                      refine held_ready (i := 15) rfl (by kernel_rfl) (fun K hK => ?_)
                      rw [if_pos (by rfl)]
                      go_simp
                      refine hK.out _ _ (trivial) (fun hHeldN => ?_)
                      clear hHeld hK K
                      have hHeld := hHeldN
                      clear hHeldN
                      try simp only [Act.put, List.setIfInBounds_toArray, List.set_cons_zero, List.set_cons_succ]
                      exact leaf a3 n3 c3 w3 ⟨o3, B3z, hN3⟩
                    ·
                      rw [if_pos (by rfl)]
                      go_simp
                      refine hK.out _ _ (trivial) (fun hHeldN => ?_)
                      clear hHeld hK K
                      have hHeld := hHeldN
                      clear hHeldN
                      try simp only [Act.put, List.setIfInBounds_toArray, List.set_cons_zero, List.set_cons_succ]
                      refine held_take (i := 11) (v := ?_) rfl (by kernel_rfl) (by kernel_rfl) (by kernel_rfl) (fun _ _ _ h => h) (Or.inl ⟨by rfl, ?_⟩) (by assumption) ?_
                      rotate_left
                      · intro w hSw; (try dsimp only at hSw); go_simp; try with_reducible rfl
                      try simp only [Act.put, List.setIfInBounds_toArray, List.set_cons_zero, List.set_cons_succ]
                      refine held_readies2 (i0 := 4) (i1 := 12) rfl rfl (by kernel_rfl) (fun K hK => ?_) (fun K hK => ?_)
                      ·
                        rw [if_pos (by rfl)]
                        go_simp
                        refine hK.out _ _ (trivial) (fun hHeldN => ?_)
                        clear hHeld hK K
                        have hHeld := hHeldN
                        clear hHeldN
                        try simp only [Act.put, List.setIfInBounds_toArray, List.set_cons_zero, List.set_cons_succ]
                        refine held_ready (i := 12) rfl (by kernel_rfl) (fun K hK => ?_)
                        rw [if_pos (by rfl)]
                        go_simp
                        refine hK.out _ _ (trivial) (fun hHeldN => ?_)
                        clear hHeld hK K
                        have hHeld := hHeldN
                        clear hHeldN
                        try simp only [Act.put, List.setIfInBounds_toArray, List.set_cons_zero, List.set_cons_succ]
                        refine held_ready (i := 14) rfl (by kernel_rfl) (fun K hK => ?_)
                        go_simp
                        refine cx.out.mono ?_
                        rintro e w3 ⟨v3, rfl, o3, B3⟩
                        have hN3 := hNd.out.below B3
                        have c3W := hN3.cell.1
                        have hs3 := lt_of_block hN3.row
                        have B3z := Bd.out.trans (B3.mono Bd.out.size)
                        obtain ⟨a3, n3, c3, rfl⟩ := o3.shape
                        replace o3 := Lib.hid o3
                        replace hN3 := Lib.hid hN3
                        replace B3 := Lib.hid B3
                        replace B3z := Lib.hid B3z
                        refine hK.out _ _ (trivial) (fun hHeldN => ?_)
                        clear hHeld hK K
                        have hHeld := hHeldN
                        clear hHeldN
                        try simp only [Act.put, List.setIfInBounds_toArray, List.set_cons_zero, List.set_cons_succ]
                        refine held_ready (i := 15) rfl (by kernel_rfl) (fun K hK => ?_)
                        rw [if_pos (by rfl)]
                        go_simp
                        refine hK.out _ _ (trivial) (fun hHeldN => ?_)
                        clear hHeld hK K
                        have hHeld := hHeldN
                        clear hHeldN
                        try simp only [Act.put, List.setIfInBounds_toArray, List.set_cons_zero, List.set_cons_succ]
                        exact leaf a3 n3 c3 w3 ⟨o3, B3z, hN3⟩
                      ·
                        rw [if_pos (by rfl)]
                        go_simp
                        refine hK.out _ _ (trivial) (fun hHeldN => ?_)
                        clear hHeld hK K
                        have hHeld := hHeldN
                        clear hHeldN
                        try simp only [Act.put, List.setIfInBounds_toArray, List.set_cons_zero, List.set_cons_succ]
                        refine held_readies2 (i0 := 4) (i1 := 14) rfl rfl (by kernel_rfl) (fun K hK => ?_) (fun K hK => ?_)
                        ·
                          rw [if_pos (by rfl)]
                          go_simp
                          refine hK.out _ _ (trivial) (fun hHeldN => ?_)
                          clear hHeld hK K
                          have hHeld := hHeldN
                          clear hHeldN
                          try simp only [Act.put, List.setIfInBounds_toArray, List.set_cons_zero, List.set_cons_succ]
                          refine held_ready (i := 14) rfl (by kernel_rfl) (fun K hK => ?_)
                          go_simp
                          refine cx.out.mono ?_
                          rintro e w3 ⟨v3, rfl, o3, B3⟩
                          have hN3 := hNd.out.below B3
                          have c3W := hN3.cell.1
                          have hs3 := lt_of_block hN3.row
                          have B3z := Bd.out.trans (B3.mono Bd.out.size)
                          obtain ⟨a3, n3, c3, rfl⟩ := o3.shape
                          replace o3 := Lib.hid o3
                          replace hN3 := Lib.hid hN3
                          replace B3 := Lib.hid B3
                          replace B3z := Lib.hid B3z
                          refine hK.out _ _ (trivial) (fun hHeldN => ?_)
                          clear hHeld hK K
                          have hHeld := hHeldN
                          clear hHeldN
                          try simp only [Act.put, List.setIfInBounds_toArray, List.set_cons_zero, List.set_cons_succ]
                          refine held_ready (i := 15) rfl (by kernel_rfl) (fun K hK => ?_)
                          rw [if_pos (by rfl)]
                          go_simp
                          refine hK.out _ _ (trivial) (fun hHeldN => ?_)
                          clear hHeld hK K
                          have hHeld := hHeldN
                          clear hHeldN
                          try simp only [Act.put, List.setIfInBounds_toArray, List.set_cons_zero, List.set_cons_succ]
                          exact leaf a3 n3 c3 w3 ⟨o3, B3z, hN3⟩
                        ·
                          go_simp
                          refine cx.out.mono ?_
                          rintro e w3 ⟨v3, rfl, o3, B3⟩
                          have hN3 := hNd.out.below B3
                          have c3W := hN3.cell.1
                          have hs3 := lt_of_block hN3.row
                          have B3z := Bd.out.trans (B3.mono Bd.out.size)
                          obtain ⟨a3, n3, c3, rfl⟩ := o3.shape
                          replace o3 := Lib.hid o3
                          replace hN3 := Lib.hid hN3
                          replace B3 := Lib.hid B3
                          replace B3z := Lib.hid B3z
                          refine hK.out _ _ (trivial) (fun hHeldN => ?_)
                          clear hHeld hK K
                          have hHeld := hHeldN
                          clear hHeldN
                          try simp only [Act.put, List.setIfInBounds_toArray, List.set_cons_zero, List.set_cons_succ]
                          refine held_readies2 (i0 := 4) (i1 := 15) rfl rfl (by kernel_rfl) (fun K hK => ?_) (fun K hK => ?_)
                          ·
                            rw [if_pos (by rfl)]
                            go_simp
                            refine hK.out _ _ (trivial) (fun hHeldN => ?_)
                            clear hHeld hK K
                            have hHeld := hHeldN
                            clear hHeldN
                            try simp only [Act.put, List.setIfInBounds_toArray, List.set_cons_zero, List.set_cons_succ]
                            refine held_ready (i := 15) rfl (by kernel_rfl) (fun K hK => ?_)
                            rw [if_pos (by rfl)]
                            go_simp
                            refine hK.out _ _ (trivial) (fun hHeldN => ?_)
                            clear hHeld hK K
                            have hHeld := hHeldN
                            clear hHeldN
                            try simp only [Act.put, List.setIfInBounds_toArray, List.set_cons_zero, List.set_cons_succ]
                            exact leaf a3 n3 c3 w3 ⟨o3, B3z, hN3⟩
                          ·
                            rw [if_pos (by rfl)]
                            go_simp
                            refine hK.out _ _ (trivial) (fun hHeldN => ?_)
                            clear hHeld hK K
                            have hHeld := hHeldN
                            clear hHeldN
                            try simp only [Act.put, List.setIfInBounds_toArray, List.set_cons_zero, List.set_cons_succ]
                            refine held_ready (i := 4) rfl (by kernel_rfl) (fun K hK => ?_)
                            rw [if_pos (by rfl)]
                            go_simp
                            refine hK.out _ _ (trivial) (fun hHeldN => ?_)
                            clear hHeld hK K
                            have hHeld := hHeldN
                            clear hHeldN
                            try simp only [Act.put, List.setIfInBounds_toArray, List.set_cons_zero, List.set_cons_succ]
                            exact leaf a3 n3 c3 w3 ⟨o3, B3z, hN3⟩
                  case leaf =>
                    rintro a3 n3 c3 w3 ⟨o3, B3z, hN3⟩
                    have hHeld : (fun (_ : World) => True) (w3.alloc (.cells #[.slice a3 n3 c3] 29)) := trivial
                    have Bal : Below w3.heap.size w3 (w3.alloc (.cells #[.slice a3 n3 c3] 29)) := (Below.refl _ _).alloc (Nat.le_refl _) _
                    have hNa := hN3.out.below Bal
                    have BA := B3z.out.trans (Bal.mono B3z.out.size)
                    have hvsA := hvs.out.below BA
                    have hveA := fun (j : Nat) (u : Value) (e : vs[j]? = some u) => (hve.out j u e).below BA
                    have rowA := hNa.row
                    have hsA : c + 1 ≤ (w3.alloc (.cells #[.slice a3 n3 c3] 29)).heap.size := lt_of_block rowA
                    have hu : Word w (w3.alloc (.cells #[.slice a3 n3 c3] 29)) c (.slice a3 n3 c3) (wd (byt key) i) := .inr ⟨(o3.out.weaken (show c + 1 ≤ wz.drew.heap.size from hsz2)).below Bal, wd_small hsb.out i⟩
                    have news : ∀ (j : Nat) (u : Value), [Value.slice a3 n3 c3][j]? = some u → (w3.alloc (.cells #[.slice a3 n3 c3] 29)).cell? (Addr.add ⟨w3.heap.size, 0, none⟩ j) = some u := fun j u hj => cell_one_new w3 (.slice a3 n3 c3) 29 j u hj
                    have sizA : vs.length + 1 ≤ 1000000000 := by have := hvl.out; omega
                    clear o3 B3z hN3 BA Bal
                    replace hNa := Lib.hid hNa
                    replace hvsA := Lib.hid hvsA
                    replace hveA := Lib.hid hveA
                    replace hsA := Lib.hid hsA
                    replace hu := Lib.hid hu
                    replace news := Lib.hid news
                    change wpAnyH _ _ _ _ _ _ _ _ _
                    refine held_ready (i := 16) rfl (by kernel_rfl) (fun K hK => ?_)
                    refine step_append_y rfl (.tmp 101) (.tmp 112) 42 rfl 29 Try.underlying42 (.slice none 0 0) 24 infoRow5 rfl (by decide) (c + 1) (.slice (some ⟨g, 0, none⟩) i cw) vs rfl hvsA.out hsA.out ⟨w3.heap.size, 0, none⟩ 1 1 [.slice a3 n3 c3] rfl rfl news.out (by intro u hu; simp at hu; subst hu; rfl) sizA ?_
                    intro v9 w9 O9 G9 A9 R9
                    have B9 := below_grown hvsA.out hsA.out G9.out
                    have nF := hNa.out.putW hvsA.out hvl.out hveA.out hu.out B9 G9.out O9.out
                    have row9 := (B9.block c (Nat.lt_succ_self _)).trans rowA
                    have hf : w9.frozen? ⟨c, 0, none⟩ = false := frozen_of_row _ _ _ _ _ row9
                    have hc9 : w9.cell? ⟨c, 0, none⟩ = some (.slice (some ⟨g, 0, none⟩) i cw) := (cell_of_row _ _ 0 _ _ _ row9).trans rfl
                    obtain ⟨a9, n9, c9, rfl⟩ := O9.out.shape
                    clear row9 B9 G9 A9 R9 O9
                    replace nF := Lib.hid nF
                    refine hK.out _ _ (trivial) (fun hHeldN => ?_)
                    clear hHeld hK K
                    have hHeld := hHeldN
                    clear hHeldN
                    try simp only [Act.put, List.setIfInBounds_toArray, List.set_cons_zero, List.set_cons_succ]
                    refine held_take (i := 17) (v := ?_) rfl (by kernel_rfl) (by kernel_rfl) (by kernel_rfl) (fun _ _ _ h => h) (Or.inl ⟨by rfl, ?_⟩) (by assumption) ?_
                    rotate_left
                    · intro w hSw; (try dsimp only at hSw); go_simp; try with_reducible rfl
                    try simp only [Act.put, List.setIfInBounds_toArray, List.set_cons_zero, List.set_cons_succ]
                    refine held_take (i := 18) (v := ?_) rfl (by kernel_rfl) (by kernel_rfl) (by kernel_rfl) (fun _ _ _ h => h) (Or.inl ⟨by rfl, ?_⟩) (by assumption) ?_
                    rotate_left
                    · intro w hSw; (try dsimp only at hSw); go_simp; try with_reducible rfl
                    try simp only [Act.put, List.setIfInBounds_toArray, List.set_cons_zero, List.set_cons_succ]
                    refine held_ready (i := 19) rfl (by kernel_rfl) (fun K hK => ?_)
                    go_simp
                    refine hK.out _ _ (trivial) (fun hHeldN => ?_)
                    clear hHeld hK K
                    have hHeld := hHeldN
                    clear hHeldN
                    try simp only [Act.put, List.setIfInBounds_toArray, List.set_cons_zero, List.set_cons_succ]
                    refine wpAnyH_done (by kernel_rfl) ?_ _
                    clear hHeld
                    go_wp2_with fail
                    go_roundw
                    case rel => exact ⟨i + 1, _, by omega, by omega, by go_num, nF.out⟩
                    case measure => simp [intOf]; omega
            · obtain rfl : i = 60 := by omega
              obtain ⟨aw, cw, rC⟩ := hN.done
              have lowF := hN.low
              simp only [show ((60 : Nat) : Int) = 60 from rfl]
              replace hN := Lib.hid hN
              replace rC := Lib.hid rC
              replace lowF := Lib.hid lowF
              go_wp2_with fail
              go_ret
              exact ⟨_, _, _, _, _, rfl, rC.out, lowF.out⟩
end Go.Proofs.Ytnadgjlmlnhknaa
