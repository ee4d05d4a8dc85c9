/-
  The law AesWords. Condition: a key of 32 bytes.
-/
import Derived.Test.YtnadgjlmlnhknaaAesKeys05
import Derived.Test.YtnadgjlmlnhknaaRef05f
namespace Go.Proofs.Ytnadgjlmlnhknaa
open Go.RowKit

theorem row_all {w : World} {b ty : Nat} {t : List Nat} (h : RowB w b ty t) (hs : ∀ x ∈ t, x < 256) {n : Nat} (hn : t.length = n) : TextAt w (.slice (some ⟨b, 0, none⟩) n n) t := by
  subst hn
  refine ⟨some ⟨b, 0, none⟩, t.length, rfl, Nat.le_refl _, fun e => by simp at e, fun i hi => ⟨byt_lt hs i, b, 0, rfl, ?_⟩⟩
  rw [Nat.zero_add]
  exact h.cell (i := i) (x := byt t i) (by simp [byt, List.getD, hi])
theorem row_part {w : World} {b ty o n : Nat} {t : List Nat} (h : RowB w b ty t) (hs : ∀ x ∈ t, x < 256) (hn : o + n ≤ t.length) : TextAt w (.slice (some ⟨b, o, none⟩) n n) (bytesOf (fun k => byt t (o + k)) n) := by
  refine ⟨some ⟨b, o, none⟩, n, by rw [length_bytesOf], by rw [length_bytesOf]; exact Nat.le_refl _, fun e => by simp at e, fun i hi => ?_⟩
  rw [length_bytesOf] at hi
  rw [byt_bytesOf _ hi]
  exact ⟨byt_lt hs _, b, o, rfl, h.cell (i := o + i) (x := byt t (o + i)) (by simp [byt, List.getD, show o + i < t.length by omega])⟩
theorem zero_lt240 : ∀ x ∈ List.replicate 240 0, x < 256 := fun x hx => by rw [List.eq_of_mem_replicate hx]; decide

set_option maxHeartbeats 4000000 in
set_option maxRecDepth 100000 in
theorem awords_any (w : World) (key : List Nat) (hk : key.length = 32) (hs : ∀ x ∈ key, x < 256) :
    Calls Try.prog 6 #[.agg (u8s key)] w fun e w' => e = .returned (.bool true) ∧ Below w.heap.size w w' := by
  have hW : ∀ i, byt (wordsOf (byt key)) i < 256 := words_lt (byt_small hs) 60
  obtain ⟨W, eW⟩ : ∃ W, W = byt (wordsOf (byt key)) := ⟨_, rfl⟩
  rw [← eW] at hW
  obtain ⟨L, hL⟩ : ∃ L, L = tabN 240 W := ⟨_, rfl⟩
  have lL : L.length = 240 := by rw [hL, length_tabN]
  have sL : ∀ x ∈ L, x < 256 := by
    intro x hx
    rw [hL] at hx
    obtain ⟨i, _, rfl⟩ := List.mem_map.1 hx
    exact hW i
  obtain ⟨Z, hZ⟩ : ∃ Z, Z = List.replicate 240 0 := ⟨_, rfl⟩
  have q60 := cmp60 (List.replicate 240 0) (by simp) zero_lt240
  have wn := words_nil
  have q60 : ∀ x, (Op.equalIn 10000 32 (.agg (u8s Z)) (.agg Try.zeroCells32)).run Try.prog x = .ok true x := fun x => by rw [zero60, hZ]; exact q60 x
  simp only [← hZ] at wn
  replace hZ := Lib.hid hZ
  replace wn := Lib.hid wn
  have i32 := info32 hk
  have i60 := info60 lL
  have z60 := size60 lL
  have r0 : RowB (w.alloc (.cells (u8s key) 23)) w.heap.size 23 key := heap_alloc_new _ _
  have low0 : Below w.heap.size w (w.alloc (.cells (u8s key) 23)) := (Below.refl _ _).alloc (Nat.le_refl _) _
  have cn := Lib.hid (fun wx => new_any wx key hk (byt_small hs))
  have rn := Lib.hid (fun wx vx h => rnew_any wx vx key hk h)
  rw [← eW] at cn rn
  replace eW := Lib.hid eW
  replace hW := Lib.hid hW
  replace r0 := Lib.hid r0
  replace low0 := Lib.hid low0
  replace lL := Lib.hid lL
  replace sL := Lib.hid sL
  replace hL := Lib.hid hL
  replace hs := Lib.hid hs
  replace hk := Lib.hid hk
  go_enter Try.func6, Try.ntmps6
  go_wp2_with (refine wpList_load_b (by rfl) 23 (.tmp 1) rfl w.heap.size rfl 23 key r0.out _ Try.underlying23 rfl i32 ?_)
  refine (cn.out _).mono ?_
  rintro e w1 ⟨b, rfl, hb, hC, B1⟩
  have k1 := r0.out.below B1 r0.out.lt
  have low1 := low0.out.trans (B1.mono low0.out.size)
  replace hb := Lib.hid hb
  replace hC := Lib.hid hC
  replace B1 := Lib.hid B1
  replace k1 := Lib.hid k1
  replace low1 := Lib.hid low1
  go_wp2_with fail
  refine (rn.out w1 _ (row_all k1.out hs.out hk.out)).mono ?_
  rintro e w2 ⟨c, aw, cw, vb, vk, rfl, rC, B2⟩
  have hC2 := hC.out.below B2 (Nat.le_refl _)
  have low2 := low1.out.trans (B2.mono low1.out.size)
  clear hC k1
  replace rC := Lib.hid rC
  replace B2 := Lib.hid B2
  replace hC2 := Lib.hid hC2
  replace low2 := Lib.hid low2
  go_wp2_with fail
  have cw' := words_any hC2.out
  rw [← hL.out] at cw'
  refine cw'.mono ?_
  rintro e w3 ⟨rfl, B3⟩
  have rC3 := rC.out.below B3
  have low3 := low2.out.trans (B3.mono low2.out.size)
  clear cw'
  replace B3 := Lib.hid B3
  replace rC3 := Lib.hid rC3
  replace low3 := Lib.hid low3
  go_wp2_with (refine wpList_store_n (by rfl) 32 (.tmp 5) (.tmp 15) rfl L rfl rfl i60 (by rw [zero60]; exact z60) ?_; intro w4 R4 B4)
  have rC4 := rC3.out.below B4.out
  have low4 := low3.out.trans (B4.out.mono low3.out.size)
  have R4' := R4.out
  clear R4 B4 rC3 low3 rC low2 B2 low1 hC2 B1
  replace rC4 := Lib.hid rC4
  replace low4 := Lib.hid low4
  replace R4' := Lib.hid R4'
  go_loopw [6] (fun iv wr => ∃ i : Nat, i ≤ 60 ∧ iv = .int .i64 i ∧ RowB wr w3.heap.size 32 L ∧ RefC wr c aw cw vb vk W ∧ Below w.heap.size w wr) (fun iv _ => 60 - (intOf iv).toNat)
  case atStart => exact ⟨0, by decide, rfl, R4'.out, rC4.out, low4.out⟩
  case round =>
    clear rC4 low4 R4'
    obtain ⟨i, hi, rfl, hR, hC, hB⟩ := hrel
    by_cases hlt : i < 60
    · have t5 := row_part (o := 4 * i) (n := 4) hR sL.out (by rw [lL.out]; omega)
      have eg : bytesOf (fun k => byt L (4 * i + k)) 4 = bytesOf (fun k => W (4 * i + k)) 4 := bytesOf_congr fun k hk4 => by
        rw [hL.out]; simp [byt, List.getD, tabN_get W (show 4 * i + k < 240 by omega)]
      rw [eg, show 4 * i = i * 4 by omega] at t5
      have lw : (wordsT W).length = 60 := by simp [wordsT]
      obtain ⟨ob, oo, ea, ai, ci, h1, h2, h3, h4⟩ := hC.words i (by rw [lw]; exact hlt)
      have ew : (wordsT W).getD i [] = bytesOf (fun k => W (4 * i + k)) 4 := by simp [wordsT, List.getD, hlt]
      rw [ew] at h1 h2 h3
      have ti : TextAt wr (.slice ai 4 ci) (bytesOf (fun k => W (i * 4 + k)) 4) := by
        rw [show i * 4 = 4 * i by omega]
        exact ⟨ai, ci, by rw [length_bytesOf], h2, h4, h3⟩
      rw [length_bytesOf] at h1
      obtain ⟨t, et⟩ : ∃ t, t = bytesOf (fun k => W (i * 4 + k)) 4 := ⟨_, rfl⟩
      rw [← et] at t5 ti
      have c0 : wr.cell? ⟨c, 0, none⟩ = some (.slice aw 60 cw) := (cell_of_row _ _ 0 _ _ _ hC.row).trans rfl
      rw [ea] at c0
      have d1 : wr.drew.cell? ⟨c, 0, none⟩ = some (.slice (some ⟨ob, oo, none⟩) 60 cw) := c0
      have d2 : wr.drew.cell? ⟨ob, oo + i, none⟩ = some (.slice ai 4 ci) := h1
      have i60' : (i : Int) < 60 := by omega
      have R' := Lib.hid hR
      have C' := Lib.hid hC
      clear h1 h2 h3 h4 ew eg hR hC c0 lw ea
      replace hB := Lib.hid hB
      replace t5 := Lib.hid t5
      replace ti := Lib.hid ti
      replace et := Lib.hid et
      go_wp2_with fail
      refine wp_region_held_drew (S := (fun w' => w'.cell? ⟨c, 0, none⟩ = some (.slice (some ⟨ob, oo, none⟩) 60 cw) ∧ w'.cell? ⟨ob, oo + i, none⟩ = some (.slice ai 4 ci) ∧ TextAt w' (.slice (some ⟨w3.heap.size, i * 4, none⟩) 4 4) t ∧ TextAt w' (.slice ai 4 ci) t)) (by kernel_rfl) (⟨d1, d2, t5.out.drew, ti.out.drew⟩) (fun hHeld => ?_)
      refine held_take (i := 0) (v := ?_) rfl (by kernel_rfl) (by kernel_rfl) (by kernel_rfl) (fun _ _ _ h => h) (Or.inl ⟨by rfl, ?_⟩) (by assumption) ?_
      rotate_left
      · intro w hSw; (try dsimp only at hSw); go_simp; try with_reducible rfl
      try simp only [Act.put, List.setIfInBounds_toArray, List.set_cons_zero, List.set_cons_succ]
      refine held_take (i := 1) (v := ?_) rfl (by kernel_rfl) (by kernel_rfl) (by kernel_rfl) (fun _ _ _ h => h) (Or.inl ⟨by rfl, ?_⟩) (by assumption) ?_
      rotate_left
      · intro w hSw; (try dsimp only at hSw); go_simp; try with_reducible rfl
      try simp only [Act.put, List.setIfInBounds_toArray, List.set_cons_zero, List.set_cons_succ]
      refine held_take (i := 2) (v := ?_) rfl (by kernel_rfl) (by kernel_rfl) (by kernel_rfl) (fun _ _ _ h => h) (Or.inl ⟨by rfl, ?_⟩) (by assumption) ?_
      rotate_left
      · intro w hSw; (try dsimp only at hSw); go_simp; try with_reducible rfl
      try simp only [Act.put, List.setIfInBounds_toArray, List.set_cons_zero, List.set_cons_succ]
      refine held_take (i := 3) (v := _) rfl (by kernel_rfl) (by kernel_rfl) (by kernel_rfl) (fun _ _ _ h => h) (yieldsIf_str (by rfl) rfl rfl (v := .slice (some ⟨w3.heap.size, i * 4, none⟩) 4 4) (fun w' h => h.2.2.1)) (by assumption) ?_
      try simp only [Act.put, List.setIfInBounds_toArray, List.set_cons_zero, List.set_cons_succ]
      refine held_take (i := 4) (v := ?_) rfl (by kernel_rfl) (by kernel_rfl) (by kernel_rfl) (fun _ _ _ h => h) (Or.inl ⟨by rfl, ?_⟩) (by assumption) ?_
      rotate_left
      · intro w hSw; (try dsimp only at hSw); go_simp; try with_reducible rfl
      try simp only [Act.put, List.setIfInBounds_toArray, List.set_cons_zero, List.set_cons_succ]
      refine held_take (i := 5) (v := ?_) rfl (by kernel_rfl) (by kernel_rfl) (by kernel_rfl) (fun _ _ _ h => h) (Or.inl ⟨by rfl, ?_⟩) (by assumption) ?_
      rotate_left
      · intro w hSw; (try dsimp only at hSw); go_simp; try with_reducible rfl
      try simp only [Act.put, List.setIfInBounds_toArray, List.set_cons_zero, List.set_cons_succ]
      refine held_take (i := 6) (v := ?_) rfl (by kernel_rfl) (by kernel_rfl) (by kernel_rfl) (fun _ _ _ h => h) (Or.inl ⟨by rfl, ?_⟩) (by assumption) ?_
      rotate_left
      · intro w hSw; (try dsimp only at hSw); go_simp; try with_reducible rfl
      try simp only [Act.put, List.setIfInBounds_toArray, List.set_cons_zero, List.set_cons_succ]
      refine held_take (i := 7) (v := ?_) rfl (by kernel_rfl) (by kernel_rfl) (by kernel_rfl) (fun _ _ _ h => h) (Or.inl ⟨by rfl, ?_⟩) (by assumption) ?_
      rotate_left
      · intro w hSw; (try dsimp only at hSw); go_simp; try with_reducible rfl
      try simp only [Act.put, List.setIfInBounds_toArray, List.set_cons_zero, List.set_cons_succ]
      refine held_take (i := 8) (v := ?_) rfl (by kernel_rfl) (by kernel_rfl) (by kernel_rfl) (fun _ _ _ h => h) (Or.inl ⟨by rfl, ?_⟩) (by assumption) ?_
      rotate_left
      · intro w hSw; (try dsimp only at hSw); go_simp; try with_reducible rfl
      try simp only [Act.put, List.setIfInBounds_toArray, List.set_cons_zero, List.set_cons_succ]
      refine held_take (i := 9) (v := ?_) rfl (by kernel_rfl) (by kernel_rfl) (by kernel_rfl) (fun _ _ _ h => h) (Or.inl ⟨by rfl, ?_⟩) (by assumption) ?_
      rotate_left
      · intro w hSw; (try dsimp only at hSw); go_simp; try with_reducible rfl
      try simp only [Act.put, List.setIfInBounds_toArray, List.set_cons_zero, List.set_cons_succ]
      refine held_take (i := 10) (v := ?_) rfl (by kernel_rfl) (by kernel_rfl) (by kernel_rfl) (fun _ _ _ h => h) (Or.inl ⟨by rfl, ?_⟩) (by assumption) ?_
      rotate_left
      · intro w hSw; (try dsimp only at hSw); go_simp; try with_reducible rfl
      try simp only [Act.put, List.setIfInBounds_toArray, List.set_cons_zero, List.set_cons_succ]
      refine held_take (i := 11) (v := _) rfl (by kernel_rfl) (by kernel_rfl) (by kernel_rfl) (fun _ _ _ h => h) (yieldsIf_str (by rfl) rfl rfl (v := .slice ai 4 ci) (fun w' h => h.2.2.2)) (by assumption) ?_
      try simp only [Act.put, List.setIfInBounds_toArray, List.set_cons_zero, List.set_cons_succ]
      refine held_take (i := 12) (v := ?_) rfl (by kernel_rfl) (by kernel_rfl) (by kernel_rfl) (fun _ _ _ h => h) (Or.inl ⟨by rfl, ?_⟩) (by assumption) ?_
      rotate_left
      · intro w hSw; (try dsimp only at hSw); go_simp; try with_reducible rfl
      try simp only [Act.put, List.setIfInBounds_toArray, List.set_cons_zero, List.set_cons_succ]
      refine wpAnyH_done (by kernel_rfl) ?_ _
      clear hHeld
      go_wp2_with fail
      go_roundw
      case rel => exact ⟨i + 1, by omega, by go_num, R'.out, C'.out.below (Below.refl _ _).drew, hB.out.drew⟩
      case measure => simp [intOf]; omega
    · obtain rfl : i = 60 := by omega
      simp only [show ((60 : Nat) : Int) = 60 from rfl]
      replace hR := Lib.hid hR
      replace hC := Lib.hid hC
      replace hB := Lib.hid hB
      go_wp2_with fail
      refine (alive05 _).mono ?_
      rintro e w6 ⟨rfl, B6⟩
      have low6 := hB.out.trans (B6.mono hB.out.size)
      replace B6 := Lib.hid B6
      replace low6 := Lib.hid low6
      go_wp2_with fail
      refine (wn.out _).mono ?_
      rintro e w7 ⟨rfl, B7⟩
      have low7 := low6.out.trans (B7.mono low6.out.size)
      replace B7 := Lib.hid B7
      replace low7 := Lib.hid low7
      go_wp2_with fail
      go_ret
      exact ⟨rfl, low7.out⟩
end Go.Proofs.Ytnadgjlmlnhknaa
