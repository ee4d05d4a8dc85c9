/-
  The reference of layer 5: xored, boxed, rows. Conditions: texts not too long.
-/
import Derived.Test.YtnadgjlmlnhknaaRefXts
import Derived.Test.YtnadgjlmlnhknaaHeld
namespace Go.Proofs.Ytnadgjlmlnhknaa
open Go.RowKit

/-- A byte just made, as a text. -/
theorem lit1 {wx : World} {d : Nat} (hd : d < 256) : TextAt (wx.alloc (.cells #[.int .u8 (d : Int)] 5)) (.slice (some ⟨wx.heap.size, 0, none⟩) 1 1) [d] := by
  refine ⟨some ⟨wx.heap.size, 0, none⟩, 1, rfl, Nat.le_refl _, fun e => by simp at e, fun i hi => ?_⟩
  obtain rfl : i = 0 := by simpa using hi
  refine ⟨hd, wx.heap.size, 0, rfl, ?_⟩
  rw [Nat.zero_add, cell_of_row _ _ _ _ _ _ (heap_alloc_new _ _)]
  rfl
theorem TextAt.nth {w : World} {v : Value} {t : List Nat} (h : TextAt w v t) : ∃ ao cap, v = .slice ao t.length cap ∧ ∀ k, k < t.length → ∃ ob oo, ao = some ⟨ob, oo, none⟩ ∧ w.cell? ⟨ob, oo + k, none⟩ = some (.int .u8 (byt t k : Int)) := by
  obtain ⟨ao, cap, rfl, _, _, hby⟩ := h.ex
  exact ⟨ao, cap, rfl, fun k hk => (hby k hk).2⟩
def xorF (X Y : List Nat) : Nat → Nat := fun i => byt X i ^^^ byt Y i

set_option maxHeartbeats 4000000 in
set_option maxRecDepth 100000 in
theorem rxored_any (w : World) (v u : Value) (X Y : List Nat) (hv : TextAt w v X) (hu : TextAt w u Y) (n : Nat) (en : X.length = n) (hm : n ≤ Y.length) (hn : n ≤ 1000) :
    Calls Try.prog 46 #[v, u] w fun e w' => ∃ v', e = .returned v' ∧ Own w' w.heap.size 5 v' (u8l (bytesOf (xorF X Y) n)) ∧ Below w.heap.size w w' := by
  obtain ⟨ax, cx, rfl, nx⟩ := hv.nth
  obtain ⟨ay, cy, rfl, ny⟩ := hu.nth
  have sx := hv.small
  have sy := hu.small
  rw [en] at nx ⊢
  obtain ⟨my, emy⟩ : ∃ q, q = Y.length := ⟨_, rfl⟩
  rw [← emy] at ny hm ⊢
  replace hv := Lib.hid hv
  replace hu := Lib.hid hu
  replace nx := Lib.hid nx
  replace ny := Lib.hid ny
  replace sx := Lib.hid sx
  replace sy := Lib.hid sy
  replace en := Lib.hid en
  replace emy := Lib.hid emy
  go_enter Try.func46, Try.ntmps46
  go_wp2_with fail
  go_loopw [5, 6] (fun o i wr => ∃ k : Nat, k ≤ n ∧ i = .int .i64 k ∧ Own wr w.heap.size 5 o (u8l (bytesOf (xorF X Y) k)) ∧ Below w.heap.size w wr) (fun _ i _ => n - (intOf i).toNat)
  case atStart => exact ⟨0, Nat.zero_le _, rfl, Own.nil _ _ _, Below.refl _ _⟩
  case round =>
    obtain ⟨k, hk, rfl, hO, hB⟩ := hrel
    by_cases hlt : k < n
    · obtain ⟨xb, xo, rfl, cX⟩ := nx.out k hlt
      obtain ⟨yb, yo, rfl, cY⟩ := ny.out k (by omega)
      have bx := byt_lt sx.out k
      have by' := byt_lt sy.out k
      have keyX : ∀ w1, Below w.heap.size w w1 → w1.cell? ⟨xb, xo + k, none⟩ = some (.int .u8 (byt X k : Int)) := fun w1 hB1 => (hB1.cell (block_lt_of_cell cX)).trans cX
      have keyY : ∀ w1, Below w.heap.size w w1 → w1.cell? ⟨yb, yo + k, none⟩ = some (.int .u8 (byt Y k : Int)) := fun w1 hB1 => (hB1.cell (block_lt_of_cell cY)).trans cY
      have ev := u8_xor_nat (byt X k) (byt Y k) bx by'
      have ld : xorF X Y k < 256 := xor_lt8 bx by'
      have ed : byt X k ^^^ byt Y k = xorF X Y k := rfl
      rw [ed] at ev
      have sn := bytesOf_snoc (xorF X Y) k
      have hs := hB.size
      have ll : (bytesOf (xorF X Y) k).length = k := length_bytesOf _ _
      generalize bytesOf (xorF X Y) k = L at *
      generalize byt X k = x at *
      generalize byt Y k = y at *
      generalize xorF X Y k = d at *
      have iX : (k : Int) < (n : Int) := by omega
      have iY : (k : Int) < (my : Int) := by omega
      have hBd : Below w.heap.size w wr.drew := hB.drew
      have c1 := keyX _ hBd
      have c2 := keyY _ hBd
      have t1 := lit1 (wx := wr.drew) ld
      have hB1 : Below w.heap.size w (wr.drew.alloc (.cells #[.int .u8 (d : Int)] 5)) := hBd.alloc hs _
      have O1 : Own (wr.drew.alloc (.cells #[.int .u8 (d : Int)] 5)) w.heap.size 5 _ _ := hO.drew.alloc _
      clear cX cY ed
      replace hO := Lib.hid hO
      replace hB := Lib.hid hB
      replace sn := Lib.hid sn
      replace keyX := Lib.hid keyX
      replace keyY := Lib.hid keyY
      replace bx := Lib.hid bx
      replace by' := Lib.hid by'
      replace ld := Lib.hid ld
      replace t1 := Lib.hid t1
      replace hB1 := Lib.hid hB1
      replace O1 := Lib.hid O1
      replace hBd := Lib.hid hBd
      go_wp2_with fail
      refine wp_region_held_drew (S := (fun w' => w'.cell? ⟨xb, xo + k, none⟩ = some (.int .u8 (x : Int)) ∧ w'.cell? ⟨yb, yo + k, none⟩ = some (.int .u8 (y : Int)))) (by kernel_rfl) (⟨c1, c2⟩) (fun hHeld => ?_)
      refine held_take (i := 0) (v := ?_) rfl (by kernel_rfl) (by kernel_rfl) (by kernel_rfl) (fun _ _ _ h => h) (Or.inl ⟨by rfl, ?_⟩) (by assumption) ?_
      rotate_left
      · intro w hSw; (try dsimp only at hSw); go_simp; try with_reducible rfl
      try simp only [Act.put, List.setIfInBounds_toArray, List.set_cons_zero, List.set_cons_succ]
      refine held_take (i := 1) (v := ?_) rfl (by kernel_rfl) (by kernel_rfl) (by kernel_rfl) (fun _ _ _ h => h) (Or.inl ⟨by rfl, ?_⟩) (by assumption) ?_
      rotate_left
      · intro w hSw; (try dsimp only at hSw); go_simp; try with_reducible rfl
      try simp only [Act.put, List.setIfInBounds_toArray, List.set_cons_zero, List.set_cons_succ]
      refine held_take (i := 2) (v := ?_) rfl (by kernel_rfl) (by kernel_rfl) (by kernel_rfl) (fun _ _ _ h => h) (Or.inl ⟨by rfl, ?_⟩) (by assumption) ?_
      rotate_left
      · intro w hSw; (try dsimp only at hSw); go_simp; try with_reducible rfl
      try simp only [Act.put, List.setIfInBounds_toArray, List.set_cons_zero, List.set_cons_succ]
      refine held_take (i := 3) (v := ?_) rfl (by kernel_rfl) (by kernel_rfl) (by kernel_rfl) (fun _ _ _ h => h) (Or.inl ⟨by rfl, ?_⟩) (by assumption) ?_
      rotate_left
      · intro w hSw; (try dsimp only at hSw); go_simp; try with_reducible rfl
      try simp only [Act.put, List.setIfInBounds_toArray, List.set_cons_zero, List.set_cons_succ]
      refine held_take (i := 4) (v := ?_) rfl (by kernel_rfl) (by kernel_rfl) (by kernel_rfl) (fun _ _ _ h => h) (Or.inl ⟨by rfl, ?_⟩) (by assumption) ?_
      rotate_left
      · intro w hSw; (try dsimp only at hSw); go_simp; try with_reducible rfl
      try simp only [Act.put, List.setIfInBounds_toArray, List.set_cons_zero, List.set_cons_succ]
      refine held_take (i := 5) (v := ?_) rfl (by kernel_rfl) (by kernel_rfl) (by kernel_rfl) (fun _ _ _ h => h) (Or.inl ⟨by rfl, ?_⟩) (by assumption) ?_
      rotate_left
      · intro w hSw; (try dsimp only at hSw); go_simp; try with_reducible rfl
      try simp only [Act.put, List.setIfInBounds_toArray, List.set_cons_zero, List.set_cons_succ]
      refine held_take (i := 6) (v := ?_) rfl (by kernel_rfl) (by kernel_rfl) (by kernel_rfl) (fun _ _ _ h => h) (Or.inl ⟨by rfl, ?_⟩) (by assumption) ?_
      rotate_left
      · intro w hSw; (try dsimp only at hSw); go_simp; try with_reducible rfl
      try simp only [Act.put, List.setIfInBounds_toArray, List.set_cons_zero, List.set_cons_succ]
      refine held_take (i := 7) (v := ?_) rfl (by kernel_rfl) (by kernel_rfl) (by kernel_rfl) (fun _ _ _ h => h) (Or.inl ⟨by rfl, ?_⟩) (by assumption) ?_
      rotate_left
      · intro w hSw; (try dsimp only at hSw); go_simp; try with_reducible rfl
      try simp only [Act.put, List.setIfInBounds_toArray, List.set_cons_zero, List.set_cons_succ]
      refine held_take (i := 8) (v := ?_) rfl (by kernel_rfl) (by kernel_rfl) (by kernel_rfl) (fun _ _ _ h => h) (Or.inl ⟨by rfl, ?_⟩) (by assumption) ?_
      rotate_left
      · intro w hSw; (try dsimp only at hSw); go_simp; try with_reducible rfl
      try simp only [Act.put, List.setIfInBounds_toArray, List.set_cons_zero, List.set_cons_succ]
      refine held_take (i := 9) (v := ?_) rfl (by kernel_rfl) (by kernel_rfl) (by kernel_rfl) (fun _ _ _ h => h) (Or.inl ⟨by rfl, ?_⟩) (by assumption) ?_
      rotate_left
      · intro w hSw; (try dsimp only at hSw); go_simp; try with_reducible rfl
      try simp only [Act.put, List.setIfInBounds_toArray, List.set_cons_zero, List.set_cons_succ]
      refine held_ready (i := 10) rfl (by kernel_rfl) (fun K hK => ?_)
      rw [if_pos (by rfl)]
      go_simp
      refine hK.out _ _ (⟨keyX.out _ hB1.out, keyY.out _ hB1.out⟩) (fun hHeldN => ?_)
      clear hHeld hK K
      have hHeld := hHeldN
      clear hHeldN
      try simp only [Act.put, List.setIfInBounds_toArray, List.set_cons_zero, List.set_cons_succ]
      refine held_ready (i := 11) rfl (by kernel_rfl) (fun K hK => ?_)
      rw [if_pos (by rfl)]
      refine wp_append_t (.tmp 13) (.tmp 23) rfl w.heap.size w _ L rfl O1.out hB1.out hB1.out.size _ [d] rfl t1.out (by rw [ll]; simp; omega) ?_
      intro v1 w1 O2 B2 G2 H2
      rw [← sn.out] at O2
      refine hK.out _ _ (⟨keyX.out _ B2.out, keyY.out _ B2.out⟩) (fun hHeldN => ?_)
      clear hHeld hK K
      have hHeld := hHeldN
      clear hHeldN
      try simp only [Act.put, List.setIfInBounds_toArray, List.set_cons_zero, List.set_cons_succ]
      refine held_take (i := 12) (v := ?_) rfl (by kernel_rfl) (by kernel_rfl) (by kernel_rfl) (fun _ _ _ h => h) (Or.inl ⟨by rfl, ?_⟩) (by assumption) ?_
      rotate_left
      · intro w hSw; (try dsimp only at hSw); go_simp; try with_reducible rfl
      try simp only [Act.put, List.setIfInBounds_toArray, List.set_cons_zero, List.set_cons_succ]
      refine wpAnyH_done (by kernel_rfl) ?_ _
      clear hHeld
      go_wp2_with fail
      go_roundw
      case rel => exact ⟨k + 1, by omega, by go_num, O2.out, B2.out⟩
      case measure => simp [intOf]; omega
    · obtain rfl : k = n := by omega
      replace hO := Lib.hid hO
      replace hB := Lib.hid hB
      go_wp2_with fail
      go_ret
      exact ⟨_, rfl, hO.out, hB.out⟩

/-! ### A cipher of the reference: what is read of it -/
def wordsT (W : Nat → Nat) : List (List Nat) := (List.range 60).map fun i => bytesOf (fun k => W (4 * i + k)) 4
def boxT : List Nat := bytesOf gbox 256
def unbT : List Nat := bytesOf gunb 256
structure RefC (w : World) (c : Nat) (aw : Option Addr) (cw : Nat) (vb vk : Value) (W : Nat → Nat) : Prop where
  row : w.heap[c]? = some (.cells #[.slice aw 60 cw, vb, vk] 44 (0, 0))
  words : TextsAt w aw (wordsT W)
  box : TextAt w vb boxT
  unb : TextAt w vk unbT
theorem RefC.below {w w' : World} {c : Nat} {aw : Option Addr} {cw : Nat} {vb vk : Value} {W : Nat → Nat} (h : RefC w c aw cw vb vk W) (hB : Below w.heap.size w w') : RefC w' c aw cw vb vk W :=
  ⟨(hB.block c (lt_of_block h.row)).trans h.row, h.words.below hB, h.box.below hB, h.unb.below hB⟩

set_option maxHeartbeats 4000000 in
set_option maxRecDepth 100000 in
theorem rboxed_core (w : World) (c : Nat) (vb : Value) (hc1 : w.cell? ⟨c, 1, none⟩ = some vb) (hbx : TextAt w vb boxT) (v : Value) (X : List Nat) (hv : TextAt w v X) (n : Nat) (en : X.length = n) (hn : n ≤ 1000) :
    Calls Try.prog 44 #[.pointer (some ⟨c, 0, none⟩), v] w fun e w' => ∃ v', e = .returned v' ∧ Own w' w.heap.size 5 v' (u8l (bytesOf (fun i => gbox (byt X i)) n)) ∧ Below w.heap.size w w' := by
  obtain ⟨ax, cx, rfl, nx⟩ := hv.nth
  obtain ⟨ab, cb, rfl, nb⟩ := hbx.nth
  have sx := hv.small
  have lb : boxT.length = 256 := length_bytesOf _ _
  rw [lb] at nb
  rw [en] at nx ⊢
  have c1 : w.cell? ⟨c, 1, none⟩ = some (.slice ab 256 cb) := by rw [hc1, lb]
  clear hc1
  replace hv := Lib.hid hv
  replace hbx := Lib.hid hbx
  replace nx := Lib.hid nx
  replace nb := Lib.hid nb
  replace sx := Lib.hid sx
  replace en := Lib.hid en
  replace lb := Lib.hid lb
  replace c1 := Lib.hid c1
  go_enter Try.func44, Try.ntmps44
  go_wp2_with fail
  go_loopw [5, 6] (fun o i wr => ∃ k : Nat, k ≤ n ∧ i = .int .i64 k ∧ Own wr w.heap.size 5 o (u8l (bytesOf (fun i => gbox (byt X i)) k)) ∧ Below w.heap.size w wr) (fun _ i _ => n - (intOf i).toNat)
  case atStart => exact ⟨0, Nat.zero_le _, rfl, Own.nil _ _ _, Below.refl _ _⟩
  case round =>
    obtain ⟨k, hk, rfl, hO, hB⟩ := hrel
    by_cases hlt : k < n
    · obtain ⟨xb, xo, rfl, cX⟩ := nx.out k hlt
      have bx := byt_lt sx.out k
      obtain ⟨bb, bo, rfl, cB⟩ := nb.out (byt X k) bx
      rw [show byt boxT (byt X k) = gbox (byt X k) from byt_bytesOf _ bx] at cB
      have key0 : ∀ w1, Below w.heap.size w w1 → w1.cell? ⟨c, 1, none⟩ = some (.slice (some ⟨bb, bo, none⟩) 256 cb) := fun w1 hB1 => (hB1.cell (block_lt_of_cell c1.out)).trans c1.out
      have keyX : ∀ w1, Below w.heap.size w w1 → w1.cell? ⟨xb, xo + k, none⟩ = some (.int .u8 (byt X k : Int)) := fun w1 hB1 => (hB1.cell (block_lt_of_cell cX)).trans cX
      have keyB : ∀ w1, Below w.heap.size w w1 → w1.cell? ⟨bb, bo + byt X k, none⟩ = some (.int .u8 (gbox (byt X k) : Int)) := fun w1 hB1 => (hB1.cell (block_lt_of_cell cB)).trans cB
      have ld : gbox (byt X k) < 256 := gbox_lt bx
      have sn := bytesOf_snoc (fun i => gbox (byt X i)) k
      have hs := hB.size
      have ll : (bytesOf (fun i => gbox (byt X i)) k).length = k := length_bytesOf _ _
      generalize bytesOf (fun i => gbox (byt X i)) k = L at *
      generalize gbox (byt X k) = d at *
      generalize byt X k = x at *
      have iX : (k : Int) < (n : Int) := by omega
      have iB : (x : Int) < 256 := by omega
      have hBd : Below w.heap.size w wr.drew := hB.drew
      have q1 := key0 _ hBd
      have q2 := keyX _ hBd
      have q3 := keyB _ hBd
      have t1 := lit1 (wx := wr.drew) ld
      have hB1 : Below w.heap.size w (wr.drew.alloc (.cells #[.int .u8 (d : Int)] 5)) := hBd.alloc hs _
      have O1 : Own (wr.drew.alloc (.cells #[.int .u8 (d : Int)] 5)) w.heap.size 5 _ _ := hO.drew.alloc _
      clear cX cB
      replace hO := Lib.hid hO
      replace hB := Lib.hid hB
      replace sn := Lib.hid sn
      replace key0 := Lib.hid key0
      replace keyX := Lib.hid keyX
      replace keyB := Lib.hid keyB
      replace bx := Lib.hid bx
      replace ld := Lib.hid ld
      replace t1 := Lib.hid t1
      replace hB1 := Lib.hid hB1
      replace O1 := Lib.hid O1
      replace hBd := Lib.hid hBd
      go_wp2_with fail
      refine wp_region_held_drew (S := (fun w' => w'.cell? ⟨c, 1, none⟩ = some (.slice (some ⟨bb, bo, none⟩) 256 cb) ∧ w'.cell? ⟨xb, xo + k, none⟩ = some (.int .u8 (x : Int)) ∧ w'.cell? ⟨bb, bo + x, none⟩ = some (.int .u8 (d : Int)))) (by kernel_rfl) (⟨q1, q2, q3⟩) (fun hHeld => ?_)
      refine held_take (i := 0) (v := ?_) rfl (by kernel_rfl) (by kernel_rfl) (by kernel_rfl) (fun _ _ _ h => h) (Or.inl ⟨by rfl, ?_⟩) (by assumption) ?_
      rotate_left
      · intro w hSw; (try dsimp only at hSw); go_simp; try with_reducible rfl
      try simp only [Act.put, List.setIfInBounds_toArray, List.set_cons_zero, List.set_cons_succ]
      refine held_take (i := 1) (v := ?_) rfl (by kernel_rfl) (by kernel_rfl) (by kernel_rfl) (fun _ _ _ h => h) (Or.inl ⟨by rfl, ?_⟩) (by assumption) ?_
      rotate_left
      · intro w hSw; (try dsimp only at hSw); go_simp; try with_reducible rfl
      try simp only [Act.put, List.setIfInBounds_toArray, List.set_cons_zero, List.set_cons_succ]
      refine held_take (i := 2) (v := ?_) rfl (by kernel_rfl) (by kernel_rfl) (by kernel_rfl) (fun _ _ _ h => h) (Or.inl ⟨by rfl, ?_⟩) (by assumption) ?_
      rotate_left
      · intro w hSw; (try dsimp only at hSw); go_simp; try with_reducible rfl
      try simp only [Act.put, List.setIfInBounds_toArray, List.set_cons_zero, List.set_cons_succ]
      refine held_take (i := 3) (v := ?_) rfl (by kernel_rfl) (by kernel_rfl) (by kernel_rfl) (fun _ _ _ h => h) (Or.inl ⟨by rfl, ?_⟩) (by assumption) ?_
      rotate_left
      · intro w hSw; (try dsimp only at hSw); go_simp; try with_reducible rfl
      try simp only [Act.put, List.setIfInBounds_toArray, List.set_cons_zero, List.set_cons_succ]
      refine held_take (i := 4) (v := ?_) rfl (by kernel_rfl) (by kernel_rfl) (by kernel_rfl) (fun _ _ _ h => h) (Or.inl ⟨by rfl, ?_⟩) (by assumption) ?_
      rotate_left
      · intro w hSw; (try dsimp only at hSw); go_simp; try with_reducible rfl
      try simp only [Act.put, List.setIfInBounds_toArray, List.set_cons_zero, List.set_cons_succ]
      refine held_take (i := 5) (v := ?_) rfl (by kernel_rfl) (by kernel_rfl) (by kernel_rfl) (fun _ _ _ h => h) (Or.inl ⟨by rfl, ?_⟩) (by assumption) ?_
      rotate_left
      · intro w hSw; (try dsimp only at hSw); go_simp; try with_reducible rfl
      try simp only [Act.put, List.setIfInBounds_toArray, List.set_cons_zero, List.set_cons_succ]
      refine held_take (i := 6) (v := ?_) rfl (by kernel_rfl) (by kernel_rfl) (by kernel_rfl) (fun _ _ _ h => h) (Or.inl ⟨by rfl, ?_⟩) (by assumption) ?_
      rotate_left
      · intro w hSw; (try dsimp only at hSw); go_simp; try with_reducible rfl
      try simp only [Act.put, List.setIfInBounds_toArray, List.set_cons_zero, List.set_cons_succ]
      refine held_take (i := 7) (v := ?_) rfl (by kernel_rfl) (by kernel_rfl) (by kernel_rfl) (fun _ _ _ h => h) (Or.inl ⟨by rfl, ?_⟩) (by assumption) ?_
      rotate_left
      · intro w hSw; (try dsimp only at hSw); go_simp; try with_reducible rfl
      try simp only [Act.put, List.setIfInBounds_toArray, List.set_cons_zero, List.set_cons_succ]
      refine held_take (i := 8) (v := ?_) rfl (by kernel_rfl) (by kernel_rfl) (by kernel_rfl) (fun _ _ _ h => h) (Or.inl ⟨by rfl, ?_⟩) (by assumption) ?_
      rotate_left
      · intro w hSw; (try dsimp only at hSw); go_simp; try with_reducible rfl
      try simp only [Act.put, List.setIfInBounds_toArray, List.set_cons_zero, List.set_cons_succ]
      refine held_take (i := 9) (v := ?_) rfl (by kernel_rfl) (by kernel_rfl) (by kernel_rfl) (fun _ _ _ h => h) (Or.inl ⟨by rfl, ?_⟩) (by assumption) ?_
      rotate_left
      · intro w hSw; (try dsimp only at hSw); go_simp; try with_reducible rfl
      try simp only [Act.put, List.setIfInBounds_toArray, List.set_cons_zero, List.set_cons_succ]
      refine held_take (i := 10) (v := ?_) rfl (by kernel_rfl) (by kernel_rfl) (by kernel_rfl) (fun _ _ _ h => h) (Or.inl ⟨by rfl, ?_⟩) (by assumption) ?_
      rotate_left
      · intro w hSw; (try dsimp only at hSw); go_simp; try with_reducible rfl
      try simp only [Act.put, List.setIfInBounds_toArray, List.set_cons_zero, List.set_cons_succ]
      refine held_ready (i := 11) rfl (by kernel_rfl) (fun K hK => ?_)
      rw [if_pos (by rfl)]
      go_simp
      refine hK.out _ _ (⟨key0.out _ hB1.out, keyX.out _ hB1.out, keyB.out _ hB1.out⟩) (fun hHeldN => ?_)
      clear hHeld hK K
      have hHeld := hHeldN
      clear hHeldN
      try simp only [Act.put, List.setIfInBounds_toArray, List.set_cons_zero, List.set_cons_succ]
      refine held_ready (i := 12) rfl (by kernel_rfl) (fun K hK => ?_)
      rw [if_pos (by rfl)]
      refine wp_append_t (.tmp 13) (.tmp 24) rfl w.heap.size w _ L rfl O1.out hB1.out hB1.out.size _ [d] rfl t1.out (by rw [ll]; simp; omega) ?_
      intro v1 w1 O2 B2 G2 H2
      rw [← sn.out] at O2
      refine hK.out _ _ (⟨key0.out _ B2.out, keyX.out _ B2.out, keyB.out _ B2.out⟩) (fun hHeldN => ?_)
      clear hHeld hK K
      have hHeld := hHeldN
      clear hHeldN
      try simp only [Act.put, List.setIfInBounds_toArray, List.set_cons_zero, List.set_cons_succ]
      refine held_take (i := 13) (v := ?_) rfl (by kernel_rfl) (by kernel_rfl) (by kernel_rfl) (fun _ _ _ h => h) (Or.inl ⟨by rfl, ?_⟩) (by assumption) ?_
      rotate_left
      · intro w hSw; (try dsimp only at hSw); go_simp; try with_reducible rfl
      try simp only [Act.put, List.setIfInBounds_toArray, List.set_cons_zero, List.set_cons_succ]
      refine wpAnyH_done (by kernel_rfl) ?_ _
      clear hHeld
      go_wp2_with fail
      go_roundw
      case rel => exact ⟨k + 1, by omega, by go_num, O2.out, B2.out⟩
      case measure => simp [intOf]; omega
    · obtain rfl : k = n := by omega
      replace hO := Lib.hid hO
      replace hB := Lib.hid hB
      go_wp2_with fail
      go_ret
      exact ⟨_, rfl, hO.out, hB.out⟩
theorem rboxed_any (w : World) (c : Nat) (aw : Option Addr) (cw : Nat) (vb vk : Value) (W : Nat → Nat) (hC : RefC w c aw cw vb vk W) (v : Value) (X : List Nat) (hv : TextAt w v X) (n : Nat) (en : X.length = n) (hn : n ≤ 1000) :
    Calls Try.prog 44 #[.pointer (some ⟨c, 0, none⟩), v] w fun e w' => ∃ v', e = .returned v' ∧ Own w' w.heap.size 5 v' (u8l (bytesOf (fun i => gbox (byt X i)) n)) ∧ Below w.heap.size w w' :=
  rboxed_core w c vb ((cell_of_row _ _ 1 _ _ _ hC.row).trans rfl) hC.box v X hv n en hn
end Go.Proofs.Ytnadgjlmlnhknaa
