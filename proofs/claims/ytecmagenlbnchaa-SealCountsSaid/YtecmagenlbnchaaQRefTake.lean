/-
  The reference of layer 2: a block's words into eight words. Conditions: eight words, sixty-four words.
-/
import Derived.Test.YtecmagenlbnchaaQRefSpread
namespace Go.Proofs.Ytecmagenlbnchaa
set_option maxRecDepth 100000
open Go.RowKit

/-- A slice of words. -/
def WordsAt (w : World) (v : Value) (l : List Nat) : Prop := ∃ g cap, v = .slice (some ⟨g, 0, none⟩) l.length cap ∧ ∀ i, i < l.length → w.cell? ⟨g, i, none⟩ = some (.int .u32 (l.getD i 0 : Nat))
theorem WordsAt.below {w w' : World} {v : Value} {l : List Nat} (h : WordsAt w v l) (hB : Below w.heap.size w w') : WordsAt w' v l := by
  obtain ⟨g, cap, e, hc⟩ := h
  exact ⟨g, cap, e, fun i hi => (hB.cell (block_lt_of_cell (hc i hi))).trans (hc i hi)⟩
theorem Own.words {w : World} {base : Nat} {v : Value} {l : List Nat} (h : Own w base 140 v (u32l l)) (h0 : 0 < l.length) : WordsAt w v l := by
  obtain ⟨g, cap, e, hc⟩ := words_form h h0
  exact ⟨g, cap, e, fun i hi => hc i _ (by simp [u32l, List.getD, hi])⟩
theorem RowU.words {w : World} {b t n : Nat} {l : List Nat} (h : RowU w b t l) (hn : l.length = n) : WordsAt w (.slice (some ⟨b, 0, none⟩) n n) l :=
  ⟨b, n, by rw [hn], fun i hi => h.cell (by simp [List.getD, hi])⟩

set_option maxRecDepth 100000 in
set_option maxHeartbeats 2000000 in
theorem ref_take (w : World) (vx vw vk : Value) (h W : List Nat) (hx : WordsAt w vx h) (hw : WordsAt w vw W) (hk : WordsAt w vk shaK) (h8 : h.length = 8) (hW : W.length = 64) (hs : Small h) :
    Calls Try.prog 104 #[vx, vw, vk] w fun e w' => ∃ g, w.heap.size ≤ g ∧ e = .returned (.slice (some ⟨g, 0, none⟩) 8 8) ∧ RowU w' g 140 (addTo h (roundsTo h W 64) 8) ∧ Below w.heap.size w w' := by
  obtain ⟨gx, cx, rfl, ex⟩ := hx
  obtain ⟨gw, cw, rfl, ew⟩ := hw
  obtain ⟨gk, ck, rfl, ek⟩ := hk
  rw [h8, hW, show shaK.length = 64 from rfl]
  have x0 := ex 0 (by omega)
  have x1 := ex 1 (by omega)
  have x2 := ex 2 (by omega)
  have x3 := ex 3 (by omega)
  have x4 := ex 4 (by omega)
  have x5 := ex 5 (by omega)
  have x6 := ex 6 (by omega)
  have x7 := ex 7 (by omega)
  have start : (∃ V : List Nat, V = roundsTo h W 0) := ⟨_, rfl⟩
  have hV : ∀ k, (roundsTo h W k).length = 8 := length_roundsTo h W h8
  have hsV : ∀ k, Small (roundsTo h W k) := fun k => small_roundsTo hs k
  have e00 : roundsTo h W 0 = h := rfl
  clear start
  obtain ⟨H, hH⟩ : ∃ H : List Nat, H = h := ⟨_, rfl⟩
  rw [← hH] at x0 x1 x2 x3 x4 x5 x6 x7
  replace ex := Lib.hid ex
  replace ew := Lib.hid ew
  replace ek := Lib.hid ek
  replace hV := Lib.hid hV
  replace hsV := Lib.hid hsV
  replace e00 := Lib.hid e00
  replace hs := Lib.hid hs
  replace hH := Lib.hid hH
  generalize g0 : H.getD 0 0 = H0 at *
  generalize g1 : H.getD 1 0 = H1 at *
  generalize g2 : H.getD 2 0 = H2 at *
  generalize g3 : H.getD 3 0 = H3 at *
  generalize g4 : H.getD 4 0 = H4 at *
  generalize g5 : H.getD 5 0 = H5 at *
  generalize g6 : H.getD 6 0 = H6 at *
  generalize g7 : H.getD 7 0 = H7 at *
  replace g0 := Lib.hid g0
  replace g1 := Lib.hid g1
  replace g2 := Lib.hid g2
  replace g3 := Lib.hid g3
  replace g4 := Lib.hid g4
  replace g5 := Lib.hid g5
  replace g6 := Lib.hid g6
  replace g7 := Lib.hid g7
  go_enter Try.func104, Try.ntmps104
  go_wp2_with fail
  go_quiet (fail)
  go_wp2_with fail
  obtain ⟨wq, hwq⟩ : ∃ x, x = w.drewN nq := ⟨_, rfl⟩
  have hBq : Below w.heap.size w wq := by rw [hwq]; exact ⟨rfl, rfl, rfl, Nat.le_refl _, fun _ _ => rfl⟩
  rw [← hwq]
  clear hwq
  replace hBq := Lib.hid hBq
  go_loopw [7, 8, 9, 10, 11, 12, 13, 14, 15] (fun a b c d e f g i j wr => ∃ k : Nat, k ≤ 64 ∧ j = .int .i64 k ∧ a = .int .u32 ((roundsTo h W k).getD 0 0 : Nat) ∧ b = .int .u32 ((roundsTo h W k).getD 1 0 : Nat) ∧ c = .int .u32 ((roundsTo h W k).getD 2 0 : Nat) ∧ d = .int .u32 ((roundsTo h W k).getD 3 0 : Nat)
    ∧ e = .int .u32 ((roundsTo h W k).getD 4 0 : Nat) ∧ f = .int .u32 ((roundsTo h W k).getD 5 0 : Nat) ∧ g = .int .u32 ((roundsTo h W k).getD 6 0 : Nat) ∧ i = .int .u32 ((roundsTo h W k).getD 7 0 : Nat) ∧ Below w.heap.size w wr) (fun _ _ _ _ _ _ _ _ j _ => 64 - (intOf j).toNat)
  case atStart =>
    refine ⟨0, Nat.zero_le _, rfl, ?_⟩
    rw [e00.out, ← hH.out, g0.out, g1.out, g2.out, g3.out, g4.out, g5.out, g6.out, g7.out]
    exact ⟨rfl, rfl, rfl, rfl, rfl, rfl, rfl, rfl, hBq.out⟩
  case round =>
    obtain ⟨k, hk, rfl, rfl, rfl, rfl, rfl, rfl, rfl, rfl, rfl, hB⟩ := hrel
    by_cases hlt : k < 64
    · have cw := (hB.cell (block_lt_of_cell (ew.out k (by omega)))).trans (ew.out k (by omega))
      have ckk := (hB.cell (block_lt_of_cell (ek.out k hlt))).trans (ek.out k hlt)
      have sV := hsV.out k
      have l0 := sV.get 0
      have l1 := sV.get 1
      have l2 := sV.get 2
      have l3 := sV.get 3
      have l4 := sV.get 4
      have l5 := sV.get 5
      have l6 := sV.get 6
      have er : roundsTo h W (k + 1) = round (roundsTo h W k) (shaK.getD k 0) (W.getD k 0) := rfl
      generalize roundsTo h W k = V at *
      generalize shaK.getD k 0 = kk at ckk er
      generalize W.getD k 0 = ww at cw er
      unfold round at er
      generalize V.getD 0 0 = x0' at *
      generalize V.getD 1 0 = x1' at *
      generalize V.getD 2 0 = x2' at *
      generalize V.getD 3 0 = x3' at *
      generalize V.getD 4 0 = x4' at *
      generalize V.getD 5 0 = x5' at *
      generalize V.getD 6 0 = x6' at *
      generalize V.getD 7 0 = x7' at *
      have a1 := walk_and l4 l5
      have ln : 4294967295 - x4' < M32 := Nat.lt_of_le_of_lt (Nat.sub_le 4294967295 x4') (show 4294967295 < M32 by decide)
      have en : ((4294967295 : Int) - (x4' : Int)) = ((4294967295 - x4' : Nat) : Int) := by unfold M32 at l4; omega
      have a2 := walk_and (b := x6') ln l6
      have a3 := walk_xor (and_lt (b := x5') l4) (and_lt (b := x6') ln)
      have b1 := walk_and l0 l1
      have b2 := walk_and l0 l2
      have b3 := walk_and l1 l2
      have b4 := walk_xor (and_lt (b := x1') l0) (and_lt (b := x2') l0)
      have b5 := walk_xor (xor_lt (and_lt (b := x1') l0) (and_lt (b := x2') l0)) (and_lt (b := x2') l1)
      have r6 := rotr_lt (n := 6) l4 (by omega)
      have r11 := rotr_lt (n := 11) l4 (by omega)
      have r25 := rotr_lt (n := 25) l4 (by omega)
      have r2 := rotr_lt (n := 2) l0 (by omega)
      have r13 := rotr_lt (n := 13) l0 (by omega)
      have r22 := rotr_lt (n := 22) l0 (by omega)
      have s1 := walk_xor r6 r11
      have s2 := walk_xor (xor_lt r6 r11) r25
      have s3 := walk_xor r2 r13
      have s4 := walk_xor (xor_lt r2 r13) r22
      have tq := fun (x : Nat) (hx : x < M32) (n : Nat) (h2 : n ≤ 31) (y : World) => (ref_turned y x n hx h2).mono (R' := fun e w' => e = .returned (.int .u32 (rotr x n)) ∧ w' = y) fun _ _ ⟨a, b⟩ => ⟨a, b.symm⟩
      have t6 := Lib.hid (tq x4' l4 6 (by omega))
      have t11 := Lib.hid (tq x4' l4 11 (by omega))
      have t25 := Lib.hid (tq x4' l4 25 (by omega))
      have t2 := Lib.hid (fun y => ref_turned y x0' 2 l0 (by omega))
      have t13 := Lib.hid (fun y => ref_turned y x0' 13 l0 (by omega))
      have t22 := Lib.hid (fun y => ref_turned y x0' 22 l0 (by omega))
      have l4' : x4' < 4294967296 := l4
      clear tq l0 l1 l2 l3 l5 l6 r6 r11 r25 r2 r13 r22 sV ln
      replace l4 := Lib.hid l4
      replace er := Lib.hid er
      replace hB := Lib.hid hB
      replace en := Lib.hid en
      go_wp2_with fail
      rw [en.out]
      go_quiet (first | (go_at_call_of 111 (6 : Int); exact Calls.quiet_of_same (t6.out _)) | (go_at_call_of 111 (11 : Int); exact Calls.quiet_of_same (t11.out _)) | (go_at_call_of 111 (25 : Int); exact Calls.quiet_of_same (t25.out _)))
      go_wp2_with fail
      refine (t2.out _).mono ?_
      rintro e w2 ⟨rfl, rfl⟩
      go_wp2_with fail
      refine (t13.out _).mono ?_
      rintro e w2 ⟨rfl, rfl⟩
      go_wp2_with fail
      refine (t22.out _).mono ?_
      rintro e w2 ⟨rfl, rfl⟩
      go_wp2_with fail
      go_roundw
      case rel =>
        refine ⟨k + 1, by omega, by go_num, ?_⟩
        rw [er.out]
        unfold Sig1 cho Sig0 maj
        generalize (rotr x4' 6 ^^^ rotr x4' 11 ^^^ rotr x4' 25) = A
        generalize (x4' &&& x5' ^^^ 4294967295 - x4' &&& x6') = B
        generalize (rotr x0' 2 ^^^ rotr x0' 13 ^^^ rotr x0' 22) = C
        generalize (x0' &&& x1' ^^^ x0' &&& x2' ^^^ x1' &&& x2') = D
        refine ⟨?_, rfl, rfl, rfl, ?_, rfl, rfl, rfl, hB.out.os, hB.out.tape, hB.out.output, hB.out.size, hB.out.block⟩
        · simp only [List.getD_cons_zero]
          refine congrArg (Value.int .u32) ?_
          unfold M32; omega
        · simp only [List.getD_cons_zero, List.getD_cons_succ]
          refine congrArg (Value.int .u32) ?_
          unfold M32; omega
      case measure => simp [intOf]; omega
    · obtain rfl : k = 64 := by omega
      simp only [show ((64 : Nat) : Int) = 64 from rfl]
      have keep : ∀ i v, w.cell? ⟨gx, i, none⟩ = some v → wr.cell? ⟨gx, i, none⟩ = some v := fun i v hv => (hB.cell (block_lt_of_cell hv)).trans hv
      have y0 := keep _ _ x0
      have y1 := keep _ _ x1
      have y2 := keep _ _ x2
      have y3 := keep _ _ x3
      have y4 := keep _ _ x4
      have y5 := keep _ _ x5
      have y6 := keep _ _ x6
      have y7 := keep _ _ x7
      have erow : u32s (addTo h (roundsTo h W 64) 8) = u32s ((List.range 8).map fun i => (H.getD i 0 + (roundsTo h W 64).getD i 0) % M32) := by rw [addTo_full, hH.out]
      simp only [List.range, List.range.loop, List.map_cons, List.map_nil, g0.out, g1.out, g2.out, g3.out, g4.out, g5.out, g6.out, g7.out] at erow
      generalize hVe : roundsTo h W 64 = V at *
      replace hVe := Lib.hid hVe
      generalize V.getD 0 0 = x0' at *
      generalize V.getD 1 0 = x1' at *
      generalize V.getD 2 0 = x2' at *
      generalize V.getD 3 0 = x3' at *
      generalize V.getD 4 0 = x4' at *
      generalize V.getD 5 0 = x5' at *
      generalize V.getD 6 0 = x6' at *
      generalize V.getD 7 0 = x7' at *
      clear keep x0 x1 x2 x3 x4 x5 x6 x7
      have hsz := hB.size
      replace erow := Lib.hid erow
      replace hB := Lib.hid hB
      replace hsz := Lib.hid hsz
      go_wp2_with fail
      go_still_tail 40, (by kernel_rfl)
      go_wp2_with fail
      go_ret
      have hb := hB.out.alloc hsz.out (.cells #[.int .u32 (((H0 : Int) + (x0' : Int)) % 4294967296), .int .u32 (((H1 : Int) + (x1' : Int)) % 4294967296), .int .u32 (((H2 : Int) + (x2' : Int)) % 4294967296), .int .u32 (((H3 : Int) + (x3' : Int)) % 4294967296), .int .u32 (((H4 : Int) + (x4' : Int)) % 4294967296), .int .u32 (((H5 : Int) + (x5' : Int)) % 4294967296), .int .u32 (((H6 : Int) + (x6' : Int)) % 4294967296), .int .u32 (((H7 : Int) + (x7' : Int)) % 4294967296)] 140)
      refine ⟨wr.heap.size, hsz.out, rfl, ?_, ⟨hb.os, hb.tape, hb.output, hb.size, hb.block⟩⟩
      unfold RowU
      rw [hVe.out, erow.out]
      refine (heap_alloc_new _ _).trans ?_
      simp [u32s, M32]

end Go.Proofs.Ytecmagenlbnchaa
