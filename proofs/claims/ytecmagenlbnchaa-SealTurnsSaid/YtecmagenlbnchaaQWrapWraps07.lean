/-
  xts: New, and sectors turned and turned back. Conditions: keys of 32 bytes; the ciphers lie in blocks of their own.
  The reference of layer 6: xored, Sector. Conditions: the ciphers lie still; blocks of sixteen bytes.
  The reference of layer 7: words, join, mixed. Conditions: texts not too long.
  The reference of layer 7: what its walk keeps. No condition.
  The reference of layer 7: Wrap. Condition: a key of 32 bytes.
  The reference of layer 7: Unwrap. Condition: a key of 32 bytes.
  The laws WrapWraps and WrapUnwraps. Condition: a key of 32 bytes, a text.
-/
import Derived.Test.YtecmagenlbnchaaQXtsDouble
import Derived.Test.YtecmagenlbnchaaQAesBack05
import Derived.Test.YtecmagenlbnchaaQOctetPut
import Derived.Laws.Cover3
import Derived.Test.YtecmagenlbnchaaQRef05f
import Derived.Test.YtecmagenlbnchaaQXtsVec
import Derived.Test.YtecmagenlbnchaaQWrapDo
import Derived.Test.YtecmagenlbnchaaQSecApart
namespace Go.Proofs.Ytecmagenlbnchaa
set_option maxRecDepth 100000
open Go.RowKit

/-- Two ciphers at block b. -/
structure XtsAt (w : World) (b : Nat) (V W : Nat → Nat) : Prop where
  ex : ∃ p q, w.heap[b]? = some (.cells #[.pointer (some ⟨p, 0, none⟩), .pointer (some ⟨q, 0, none⟩)] 95 (0, 0)) ∧ CipherAt w p V ∧ CipherAt w q W
theorem XtsAt.below {w w' : World} {b : Nat} {V W : Nat → Nat} (h : XtsAt w b V W) (hB : Below w.heap.size w w') : XtsAt w' b V W := by
  obtain ⟨p, q, h1, h2, h3⟩ := h.ex
  exact ⟨p, q, (hB.block b (lt_of_block h1)).trans h1, h2.below hB (Nat.le_refl _), h3.below hB (Nat.le_refl _)⟩
theorem XtsAt.lt {w : World} {b : Nat} {V W : Nat → Nat} (h : XtsAt w b V W) : b < w.heap.size := by
  obtain ⟨p, q, h1, _⟩ := h.ex
  exact lt_of_block h1

set_option maxRecDepth 100000 in
theorem xnew_any (w : World) (k1 k2 : List Nat) (h1 : k1.length = 32) (s1 : ∀ x ∈ k1, x < 256) (h2 : k2.length = 32) (s2 : ∀ x ∈ k2, x < 256) :
    Calls Try.prog 52 #[.agg (u8s k1), .agg (u8s k2)] w fun e w' => ∃ b, e = .returned (.pointer (some ⟨b, 0, none⟩)) ∧ w.heap.size ≤ b ∧ XtsAt w' b (byt (wordsOf (byt k1))) (byt (wordsOf (byt k2))) ∧ Below w.heap.size w w' := by
  have r0 : RowB (w.alloc (.cells (u8s k1) 23)) w.heap.size 23 k1 := heap_alloc_new _ _
  have r1 : RowB ((w.alloc (.cells (u8s k1) 23)).alloc (.cells (u8s k2) 23)) (w.heap.size + 1) 23 k2 := by
    rw [show w.heap.size + 1 = (w.alloc (.cells (u8s k1) 23)).heap.size by simp]; exact heap_alloc_new _ _
  have q0 := r0.alloc (.cells (u8s k2) 23)
  have low : Below w.heap.size w ((w.alloc (.cells (u8s k1) 23)).alloc (.cells (u8s k2) 23)) := ((Below.refl _ _).alloc (Nat.le_refl _) _).alloc (by simp) _
  have i1 := info32 h1
  have i2 := info32 h2
  have c1 := Lib.hid (fun wx => new_any wx k1 h1 (byt_small s1))
  have c2 := Lib.hid (fun wx => new_any wx k2 h2 (byt_small s2))
  generalize byt (wordsOf (byt k1)) = V at *
  generalize byt (wordsOf (byt k2)) = W at *
  have qd : RowB ((w.alloc (.cells (u8s k1) 23)).alloc (.cells (u8s k2) 23)).drew w.heap.size 23 k1 := q0
  have rd : RowB ((w.alloc (.cells (u8s k1) 23)).alloc (.cells (u8s k2) 23)).drew (w.heap.size + 1) 23 k2 := r1
  replace r0 := Lib.hid r0
  replace r1 := Lib.hid r1
  replace q0 := Lib.hid q0
  replace low := Lib.hid low
  go_enter Try.func52, Try.ntmps52
  go_wp2_with fail
  refine wp_region_held_drew (S := (fun w' => RowB w' w.heap.size 23 k1 ∧ RowB w' (w.heap.size + 1) 23 k2)) (by kernel_rfl) (⟨qd, rd⟩) (fun hHeld => ?_)
  refine held_take (i := 0) (v := _) rfl (by kernel_rfl) (by kernel_rfl) (by kernel_rfl) (fun _ _ _ h => h) (yieldsIf_row (by rfl) rfl rfl Try.underlying23 i1 (fun w' h => h.1)) (by assumption) ?_
  try simp only [Act.put, List.setIfInBounds_toArray, List.set_cons_zero, List.set_cons_succ]
  refine held_take (i := 2) (v := _) rfl (by kernel_rfl) (by kernel_rfl) (by kernel_rfl) (fun _ _ _ h => h) (yieldsIf_row (by rfl) rfl rfl Try.underlying23 i2 (fun w' h => h.2)) (by assumption) ?_
  try simp only [Act.put, List.setIfInBounds_toArray, List.set_cons_zero, List.set_cons_succ]
  refine held_ready (i := 1) rfl (by kernel_rfl) (fun K hK => ?_)
  go_simp
  refine (c1.out _).mono ?_
  rintro e w1 ⟨b1, rfl, g1, C1, B1⟩
  have qd1 := qd.below B1 qd.lt
  have rd1 := rd.below B1 rd.lt
  have low1 := low.out.drew.trans (B1.mono low.out.size)
  replace B1 := Lib.hid B1
  replace C1 := Lib.hid C1
  replace low1 := Lib.hid low1
  refine hK.out _ _ (⟨qd1, rd1⟩) (fun hHeldN => ?_)
  clear hHeld hK K
  have hHeld := hHeldN
  clear hHeldN
  try simp only [Act.put, List.setIfInBounds_toArray, List.set_cons_zero, List.set_cons_succ]
  refine held_ready (i := 3) rfl (by kernel_rfl) (fun K hK => ?_)
  go_simp
  refine (c2.out _).mono ?_
  rintro e w2 ⟨b2, rfl, g2, C2, B2⟩
  have qd2 := qd1.below B2 qd1.lt
  have rd2 := rd1.below B2 rd1.lt
  have low2 := low1.out.trans (B2.mono low1.out.size)
  have D1 := C1.out.below B2 (Nat.le_refl _)
  replace B2 := Lib.hid B2
  replace C2 := Lib.hid C2
  replace low2 := Lib.hid low2
  replace D1 := Lib.hid D1
  refine hK.out _ _ (⟨qd2, rd2⟩) (fun hHeldN => ?_)
  clear hHeld hK K
  have hHeld := hHeldN
  clear hHeldN
  try simp only [Act.put, List.setIfInBounds_toArray, List.set_cons_zero, List.set_cons_succ]
  refine held_take (i := 4) (v := ?_) rfl (by kernel_rfl) (by kernel_rfl) (by kernel_rfl) (fun _ _ _ h => h) (Or.inl ⟨by rfl, ?_⟩) (by assumption) ?_
  rotate_left
  · intro w hSw; (try dsimp only at hSw); go_simp; try with_reducible rfl
  try simp only [Act.put, List.setIfInBounds_toArray, List.set_cons_zero, List.set_cons_succ]
  refine held_ready (i := 5) rfl (by kernel_rfl) (fun K hK => ?_)
  go_simp
  refine hK.out _ _ (⟨qd2.alloc _, rd2.alloc _⟩) (fun hHeldN => ?_)
  clear hHeld hK K
  have hHeld := hHeldN
  clear hHeldN
  try simp only [Act.put, List.setIfInBounds_toArray, List.set_cons_zero, List.set_cons_succ]
  refine held_take (i := 6) (v := ?_) rfl (by kernel_rfl) (by kernel_rfl) (by kernel_rfl) (fun _ _ _ h => h) (Or.inl ⟨by rfl, ?_⟩) (by assumption) ?_
  rotate_left
  · intro w hSw; (try dsimp only at hSw); go_simp; try with_reducible rfl
  try simp only [Act.put, List.setIfInBounds_toArray, List.set_cons_zero, List.set_cons_succ]
  refine wpAnyH_done (by kernel_rfl) ?_ _
  clear hHeld
  go_wp2_with fail
  go_ret
  refine ⟨_, rfl, Nat.le_trans low2.out.size (Nat.le_refl _), ⟨b1, b2, heap_alloc_new _ _, D1.out.below ((Below.refl _ _).alloc (Nat.le_refl _) _) (Nat.le_refl _), C2.out.below ((Below.refl _ _).alloc (Nat.le_refl _) _) (Nat.le_refl _)⟩, low2.out.alloc low2.out.size _⟩
/-- What may be a sector. -/
def sectorB (n : Nat) : Bool := decide (n ≠ 0 ∧ n % 16 = 0 ∧ n ≤ 65536)

set_option maxRecDepth 100000 in
theorem xall_bad (w : World) (c : Value) (tw : Nat → Nat) (V : Value) (ao : Option Addr) (n cap : Nat) (hs : n < 9223372036854775808) (hb : sectorB n = false) :
    Calls Try.prog 54 #[c, .agg (u8s (tab tw)), .slice ao n cap, V] w fun e w' => e = .returned (.tuple #[.slice none 0 0, .int .i64 3]) ∧ Below w.heap.size w w' := by
  have hf := of_decide_eq_false hb
  clear hb
  have hm : ((n : Int)).tmod 16 = ((n % 16 : Nat) : Int) := by rw [Int.tmod_eq_emod_of_nonneg (by omega)]; omega
  by_cases h0 : n = 0
  · subst h0
    go_enter Try.func54, Try.ntmps54
    go_wp2_with fail
    go_ret2
    exact ⟨rfl, (Below.refl _ _).alloc (Nat.le_refl _) _⟩
  · have d0 : ((n : Int) == 0) = false := beq_eq_false_iff_ne.2 (by omega)
    by_cases h1 : n % 16 = 0
    · rw [h1] at hm
      have d2 : decide ((n : Int) > 65536) = true := decide_eq_true (by omega)
      go_enter Try.func54, Try.ntmps54
      go_wp2_with fail
      go_ret2
      exact ⟨rfl, (Below.refl _ _).alloc (Nat.le_refl _) _⟩
    · have d2 : (((n % 16 : Nat) : Int) == 0) = false := beq_eq_false_iff_ne.2 (by omega)
      have d3 : (((n % 16 : Nat) : Int) != 0) = true := by rw [bne, d2]; rfl
      generalize n % 16 = m at *
      go_enter Try.func54, Try.ntmps54
      go_wp2_with fail
      go_ret2
      exact ⟨rfl, (Below.refl _ _).alloc (Nat.le_refl _) _⟩

/-- What a sector's walk keeps: the mask at g, the answer. -/
structure SecSt (w wr : World) (g Bo : Nat) (v : Value) (mask : Nat → Nat) (out : List Nat) : Prop where
  m : RowB wr g 91 (tab mask)
  o : Own wr Bo 5 v (u8l out)
  low : Below w.heap.size w wr
  far : w.heap.size ≤ g ∧ g < Bo ∧ Bo ≤ wr.heap.size
theorem SecSt.below {w wr w' : World} {g Bo : Nat} {v : Value} {mask : Nat → Nat} {out : List Nat} (h : SecSt w wr g Bo v mask out) (hB : Below wr.heap.size wr w') : SecSt w w' g Bo v mask out :=
  ⟨h.m.below hB h.m.lt, h.o.below hB, h.low.trans (hB.mono h.low.size), h.far.1, h.far.2.1, Nat.le_trans h.far.2.2 hB.size⟩
theorem SecSt.drew {w wr : World} {g Bo : Nat} {v : Value} {mask : Nat → Nat} {out : List Nat} (h : SecSt w wr g Bo v mask out) : SecSt w wr.drew g Bo v mask out := ⟨h.m, h.o, h.low.drew, h.far⟩
/-- A block behind all of these turns. -/
theorem SecSt.upd {w wr w' : World} {g Bo p : Nat} {v : Value} {mask : Nat → Nat} {out : List Nat} (h : SecSt w wr g Bo v mask out) (hp : g < p) (hv : ∀ k, v.ownBlock = some k → k < p) (hU : Upd (fun i => i = p) wr w') : SecSt w w' g Bo v mask out :=
  ⟨h.m.other (hU.block _ h.m.lt (by omega)), h.o.other (fun k hk => hU.block _ (h.o.lt k hk).2 (by have := hv k hk; omega)), h.low.trans (hU.below (fun k hk e => by have := h.far; omega) h.low.size), h.far.1, h.far.2.1, Nat.le_trans h.far.2.2 hU.size⟩
/-- The mask turns. -/
theorem SecSt.mask {w wr w' : World} {g Bo : Nat} {v : Value} {mask mask' : Nat → Nat} {out : List Nat} (h : SecSt w wr g Bo v mask out) (hR : RowB w' g 91 (tab mask')) (hU : Upd (fun i => i = g) wr w') : SecSt w w' g Bo v mask' out :=
  ⟨hR, h.o.other (fun k hk => hU.block _ (h.o.lt k hk).2 (by have := (h.o.lt k hk).1; have := h.far; omega)), h.low.trans (hU.below (fun k hk e => by have := h.far; omega) h.low.size), h.far.1, h.far.2.1, Nat.le_trans h.far.2.2 hU.size⟩
theorem SecSt.grow {w wr w' : World} {g Bo : Nat} {v v' : Value} {mask : Nat → Nat} {out out' : List Nat} (h : SecSt w wr g Bo v mask out) (hO : Own w' Bo 5 v' (u8l out')) (hB : Below Bo wr w') : SecSt w w' g Bo v' mask out' :=
  ⟨h.m.below hB h.far.2.1, hO, h.low.trans (hB.mono (by have := h.far; omega)), h.far.1, h.far.2.1, Nat.le_trans h.far.2.2 hB.size⟩
/-- .. and the block that is turned, at p. -/
structure BlkSt (w wr : World) (g Bo p : Nat) (v : Value) (mask : Nat → Nat) (out : List Nat) (x : Nat → Nat) : Prop where
  s : SecSt w wr g Bo v mask out
  x : RowB wr p 91 (tab x)
  gp : g < p
  vp : ∀ k, v.ownBlock = some k → k < p
theorem BlkSt.put {w wr w' : World} {g Bo p : Nat} {v : Value} {mask : Nat → Nat} {out : List Nat} {x y : Nat → Nat} (h : BlkSt w wr g Bo p v mask out x) (hR : RowB w' p 91 (tab y)) (hU : Upd (fun i => i = p) wr w') : BlkSt w w' g Bo p v mask out y :=
  ⟨h.s.upd h.gp h.vp hU, hR, h.gp, h.vp⟩
theorem BlkSt.set {w wr : World} {g Bo p : Nat} {v : Value} {mask : Nat → Nat} {out : List Nat} {x y : Nat → Nat} {k : Nat} (h : BlkSt w wr g Bo p v mask out (upTo k y x)) : BlkSt w (wr.setCell ⟨p, k, none⟩ (.int .u8 (y k : Int))) g Bo p v mask out (upTo (k + 1) y x) :=
  h.put (by have := h.x.set k (y k); rwa [upTo_set] at this) ((Upd.refl _ _).setCell ⟨p, k, none⟩ _ (fun _ => rfl))
theorem BlkSt.drew {w wr : World} {g Bo p : Nat} {v : Value} {mask : Nat → Nat} {out : List Nat} {x : Nat → Nat} (h : BlkSt w wr g Bo p v mask out x) : BlkSt w wr.drew g Bo p v mask out x := ⟨h.s.drew, h.x, h.gp, h.vp⟩
theorem BlkSt.below {w wr w' : World} {g Bo p : Nat} {v : Value} {mask : Nat → Nat} {out : List Nat} {x : Nat → Nat} (h : BlkSt w wr g Bo p v mask out x) (hB : Below wr.heap.size wr w') : BlkSt w w' g Bo p v mask out x :=
  ⟨h.s.below hB, h.x.below hB h.x.lt, h.gp, h.vp⟩
theorem range16 {w : World} {ob oo n k : Nat} {l : List Nat} (h : ∀ i, i < n → w.cell? ⟨ob, oo + i, none⟩ = some (.int .u8 (byt l i : Nat))) (hk : 16 * k + 16 ≤ n) : w.rangeAt ob (oo + 16 * k) (u8l (tab (blk (byt l) k))) := fun j v hv => by
  have hj : j < 16 := by
    have := (List.getElem?_eq_some_iff.1 hv).1
    simpa [u8l, tab] using this
  rw [Nat.add_assoc, h _ (by omega), ← hv]
  simp [u8l, tab_get _ hj, blk]
theorem sec_next (E : (Nat → Nat) → Nat → Nat) (M b : Nat → Nat) (k : Nat) : bytesOf (sec E M b) (16 * (k + 1)) = bytesOf (sec E M b) (16 * k) ++ tab (under E (maskTo M k) (blk b k)) := by
  rw [show 16 * (k + 1) = 16 * k + 16 by omega, bytesOf_add]
  congr 1
  refine List.map_congr_left fun i hi => ?_
  have := List.mem_range.1 hi
  unfold sec
  rw [show (16 * k + i) / 16 = k by omega, show (16 * k + i) % 16 = i by omega]

end Go.Proofs.Ytecmagenlbnchaa
namespace Go.Proofs.Ytecmagenlbnchaa
set_option maxRecDepth 100000
open Go.RowKit

/-- Two slices of the call's own lie in blocks of their own. -/
def Apart (v u : Value) : Prop := ∀ q, v.ownBlock = some q → u.ownBlock = some q → False
/-- A cipher of the reference at c. -/
def RefAt (w : World) (c : Nat) (W : Nat → Nat) : Prop := ∃ aw cw vb vk, RefC w c aw cw vb vk W
theorem RefAt.below {w w' : World} {c : Nat} {W : Nat → Nat} (h : RefAt w c W) (hB : Below w.heap.size w w') : RefAt w' c W := by
  obtain ⟨aw, cw, vb, vk, h⟩ := h
  exact ⟨aw, cw, vb, vk, h.below hB⟩
theorem rturn_at {w : World} {c : Nat} {W : Nat → Nat} (hC : RefAt w c W) (hW : ∀ i, W i < 256) (v : Value) (x : Nat → Nat) (hx : Bytes16 x) (hv : TextAt w v (tab x)) :
    Calls Try.prog 61 #[.pointer (some ⟨c, 0, none⟩), v] w fun e w' => ∃ v', e = .returned v' ∧ Own w' w.heap.size 5 v' (u8l (tab (turnF W x))) ∧ Below w.heap.size w w' := by
  obtain ⟨aw, cw, vb, vk, h⟩ := hC
  exact rturn_any w c aw cw vb vk W hW h v x hx hv
theorem rback_at {w : World} {c : Nat} {W : Nat → Nat} (hC : RefAt w c W) (hW : ∀ i, W i < 256) (v : Value) (x : Nat → Nat) (hx : Bytes16 x) (hv : TextAt w v (tab x)) :
    Calls Try.prog 64 #[.pointer (some ⟨c, 0, none⟩), v] w fun e w' => ∃ v', e = .returned v' ∧ Own w' w.heap.size 5 v' (u8l (tab (backF W x))) ∧ Below w.heap.size w w' := by
  obtain ⟨aw, cw, vb, vk, h⟩ := hC
  exact rback_any w c aw cw vb vk W hW h v x hx hv

set_option maxHeartbeats 4000000 in
set_option maxRecDepth 100000 in
theorem r6xored_any (w : World) (v u : Value) (X Y : Nat → Nat) (bX : Bytes16 X) (bY : Bytes16 Y) (hv : TextAt w v (tab X)) (hu : TextAt w u (tab Y)) :
    Calls Try.prog 62 #[v, u] w fun e w' => ∃ v', e = .returned v' ∧ Own w' w.heap.size 5 v' (u8l (tab (xor16 X Y))) ∧ Below w.heap.size w w' := by
  obtain ⟨ax, cx, rfl, nx⟩ := hv.nth
  obtain ⟨ay, cy, rfl, ny⟩ := hu.nth
  rw [length_tab] at nx ny
  simp only [length_tab]
  replace hv := Lib.hid hv
  replace hu := Lib.hid hu
  replace nx := Lib.hid nx
  replace ny := Lib.hid ny
  replace bX := Lib.hid bX
  replace bY := Lib.hid bY
  go_enter Try.func62, Try.ntmps62
  go_wp2_with fail
  go_loopw [5, 6] (fun o i wr => ∃ k : Nat, k ≤ 16 ∧ i = .int .i64 k ∧ Own wr w.heap.size 5 o (u8l (bytesOf (xor16 X Y) k)) ∧ Below w.heap.size w wr) (fun _ i _ => 16 - (intOf i).toNat)
  case atStart => exact ⟨0, Nat.zero_le _, rfl, Own.nil _ _ _, Below.refl _ _⟩
  case round =>
    obtain ⟨k, hk, rfl, hO, hB⟩ := hrel
    by_cases hlt : k < 16
    · obtain ⟨xb, xo, rfl, cX⟩ := nx.out k hlt
      obtain ⟨yb, yo, rfl, cY⟩ := ny.out k hlt
      rw [byt_tab X hlt] at cX
      rw [byt_tab Y hlt] at cY
      have bx := bX.out k hlt
      have by' := bY.out k hlt
      have keyX : ∀ w1, Below w.heap.size w w1 → w1.cell? ⟨xb, xo + k, none⟩ = some (.int .u8 (X k : Int)) := fun w1 hB1 => (hB1.cell (block_lt_of_cell cX)).trans cX
      have keyY : ∀ w1, Below w.heap.size w w1 → w1.cell? ⟨yb, yo + k, none⟩ = some (.int .u8 (Y k : Int)) := fun w1 hB1 => (hB1.cell (block_lt_of_cell cY)).trans cY
      have ev := u8_xor_nat (X k) (Y k) bx by'
      have ld : xor16 X Y k < 256 := xor_lt8 bx by'
      have ed : X k ^^^ Y k = xor16 X Y k := rfl
      rw [ed] at ev
      have sn := bytesOf_snoc (xor16 X Y) k
      have hs := hB.size
      have ll : (bytesOf (xor16 X Y) k).length = k := length_bytesOf _ _
      generalize bytesOf (xor16 X Y) k = L at *
      generalize xor16 X Y k = d at *
      generalize X k = x at *
      generalize Y k = y at *
      have iX : (k : Int) < 16 := by omega
      have hBd : Below w.heap.size w wr.drew := hB.drew
      have c1 := keyX _ hBd
      have c2 := keyY _ hBd
      have t1 := lit1 (wx := wr.drew) ld
      have hB1 : Below w.heap.size w (wr.drew.alloc (.cells #[.int .u8 (d : Int)] 5)) := hBd.alloc hs _
      have O1 : Own (wr.drew.alloc (.cells #[.int .u8 (d : Int)] 5)) w.heap.size 5 _ _ := hO.drew.alloc _
      clear cX cY ed
      replace hO := Lib.hid hO
      replace hB := Lib.hid hB
      replace sn := Lib.hid sn
      replace keyX := Lib.hid keyX
      replace keyY := Lib.hid keyY
      replace bx := Lib.hid bx
      replace by' := Lib.hid by'
      replace ld := Lib.hid ld
      replace t1 := Lib.hid t1
      replace hB1 := Lib.hid hB1
      replace O1 := Lib.hid O1
      replace hBd := Lib.hid hBd
      go_wp2_with fail
      refine wp_region_held_drew (S := (fun w' => w'.cell? ⟨xb, xo + k, none⟩ = some (.int .u8 (x : Int)) ∧ w'.cell? ⟨yb, yo + k, none⟩ = some (.int .u8 (y : Int)))) (by kernel_rfl) (⟨c1, c2⟩) (fun hHeld => ?_)
      refine held_take (i := 0) (v := ?_) rfl (by kernel_rfl) (by kernel_rfl) (by kernel_rfl) (fun _ _ _ h => h) (Or.inl ⟨by rfl, ?_⟩) (by assumption) ?_
      rotate_left
      · intro w hSw; (try dsimp only at hSw); go_simp; try with_reducible rfl
      try simp only [Act.put, List.setIfInBounds_toArray, List.set_cons_zero, List.set_cons_succ]
      refine held_take (i := 1) (v := ?_) rfl (by kernel_rfl) (by kernel_rfl) (by kernel_rfl) (fun _ _ _ h => h) (Or.inl ⟨by rfl, ?_⟩) (by assumption) ?_
      rotate_left
      · intro w hSw; (try dsimp only at hSw); go_simp; try with_reducible rfl
      try simp only [Act.put, List.setIfInBounds_toArray, List.set_cons_zero, List.set_cons_succ]
      refine held_take (i := 2) (v := ?_) rfl (by kernel_rfl) (by kernel_rfl) (by kernel_rfl) (fun _ _ _ h => h) (Or.inl ⟨by rfl, ?_⟩) (by assumption) ?_
      rotate_left
      · intro w hSw; (try dsimp only at hSw); go_simp; try with_reducible rfl
      try simp only [Act.put, List.setIfInBounds_toArray, List.set_cons_zero, List.set_cons_succ]
      refine held_take (i := 3) (v := ?_) rfl (by kernel_rfl) (by kernel_rfl) (by kernel_rfl) (fun _ _ _ h => h) (Or.inl ⟨by rfl, ?_⟩) (by assumption) ?_
      rotate_left
      · intro w hSw; (try dsimp only at hSw); go_simp; try with_reducible rfl
      try simp only [Act.put, List.setIfInBounds_toArray, List.set_cons_zero, List.set_cons_succ]
      refine held_take (i := 4) (v := ?_) rfl (by kernel_rfl) (by kernel_rfl) (by kernel_rfl) (fun _ _ _ h => h) (Or.inl ⟨by rfl, ?_⟩) (by assumption) ?_
      rotate_left
      · intro w hSw; (try dsimp only at hSw); go_simp; try with_reducible rfl
      try simp only [Act.put, List.setIfInBounds_toArray, List.set_cons_zero, List.set_cons_succ]
      refine held_take (i := 5) (v := ?_) rfl (by kernel_rfl) (by kernel_rfl) (by kernel_rfl) (fun _ _ _ h => h) (Or.inl ⟨by rfl, ?_⟩) (by assumption) ?_
      rotate_left
      · intro w hSw; (try dsimp only at hSw); go_simp; try with_reducible rfl
      try simp only [Act.put, List.setIfInBounds_toArray, List.set_cons_zero, List.set_cons_succ]
      refine held_take (i := 6) (v := ?_) rfl (by kernel_rfl) (by kernel_rfl) (by kernel_rfl) (fun _ _ _ h => h) (Or.inl ⟨by rfl, ?_⟩) (by assumption) ?_
      rotate_left
      · intro w hSw; (try dsimp only at hSw); go_simp; try with_reducible rfl
      try simp only [Act.put, List.setIfInBounds_toArray, List.set_cons_zero, List.set_cons_succ]
      refine held_take (i := 7) (v := ?_) rfl (by kernel_rfl) (by kernel_rfl) (by kernel_rfl) (fun _ _ _ h => h) (Or.inl ⟨by rfl, ?_⟩) (by assumption) ?_
      rotate_left
      · intro w hSw; (try dsimp only at hSw); go_simp; try with_reducible rfl
      try simp only [Act.put, List.setIfInBounds_toArray, List.set_cons_zero, List.set_cons_succ]
      refine held_take (i := 8) (v := ?_) rfl (by kernel_rfl) (by kernel_rfl) (by kernel_rfl) (fun _ _ _ h => h) (Or.inl ⟨by rfl, ?_⟩) (by assumption) ?_
      rotate_left
      · intro w hSw; (try dsimp only at hSw); go_simp; try with_reducible rfl
      try simp only [Act.put, List.setIfInBounds_toArray, List.set_cons_zero, List.set_cons_succ]
      refine held_take (i := 9) (v := ?_) rfl (by kernel_rfl) (by kernel_rfl) (by kernel_rfl) (fun _ _ _ h => h) (Or.inl ⟨by rfl, ?_⟩) (by assumption) ?_
      rotate_left
      · intro w hSw; (try dsimp only at hSw); go_simp; try with_reducible rfl
      try simp only [Act.put, List.setIfInBounds_toArray, List.set_cons_zero, List.set_cons_succ]
      refine held_ready (i := 10) rfl (by kernel_rfl) (fun K hK => ?_)
      rw [if_pos (by rfl)]
      go_simp
      refine hK.out _ _ (⟨keyX.out _ hB1.out, keyY.out _ hB1.out⟩) (fun hHeldN => ?_)
      clear hHeld hK K
      have hHeld := hHeldN
      clear hHeldN
      try simp only [Act.put, List.setIfInBounds_toArray, List.set_cons_zero, List.set_cons_succ]
      refine held_ready (i := 11) rfl (by kernel_rfl) (fun K hK => ?_)
      rw [if_pos (by rfl)]
      refine wp_append_t (.tmp 11) (.tmp 21) rfl w.heap.size w _ L rfl O1.out hB1.out hB1.out.size _ [d] rfl t1.out (by rw [ll]; simp; omega) ?_
      intro v1 w1 O2 B2 G2 H2
      rw [← sn.out] at O2
      refine hK.out _ _ (⟨keyX.out _ B2.out, keyY.out _ B2.out⟩) (fun hHeldN => ?_)
      clear hHeld hK K
      have hHeld := hHeldN
      clear hHeldN
      try simp only [Act.put, List.setIfInBounds_toArray, List.set_cons_zero, List.set_cons_succ]
      refine held_take (i := 12) (v := ?_) rfl (by kernel_rfl) (by kernel_rfl) (by kernel_rfl) (fun _ _ _ h => h) (Or.inl ⟨by rfl, ?_⟩) (by assumption) ?_
      rotate_left
      · intro w hSw; (try dsimp only at hSw); go_simp; try with_reducible rfl
      try simp only [Act.put, List.setIfInBounds_toArray, List.set_cons_zero, List.set_cons_succ]
      refine wpAnyH_done (by kernel_rfl) ?_ _
      clear hHeld
      go_wp2_with fail
      go_roundw
      case rel => exact ⟨k + 1, by omega, by go_num, O2.out, B2.out⟩
      case measure => simp [intOf]; omega
    · obtain rfl : k = 16 := by omega
      replace hO := Lib.hid hO
      replace hB := Lib.hid hB
      go_wp2_with fail
      go_ret
      exact ⟨_, rfl, hO.out, hB.out⟩

theorem blk_cut {l : List Nat} {k a : Nat} (ea : a = 16 * k) (h : a + 16 ≤ l.length) : (l.drop a).take 16 = tab (blk (byt l) k) := by
  rw [cut_bytes h, ea]; rfl

set_option maxHeartbeats 4000000 in
set_option maxRecDepth 100000 in
theorem r6turn_bad (w : World) (vx vy vt : Value) (ao : Option Addr) (n cap : Nat) (hn : n < 9223372036854775808) (hb : sectorB n = false) :
    Calls Try.prog 38 #[vx, vy, vt, .slice ao n cap, .bool false] w fun e w' => e = .returned (.tuple #[.slice none 0 0, .int .i64 3]) ∧ Below w.heap.size w w' := by
  have hf := of_decide_eq_false hb
  clear hb
  have hm : ((n : Int)).tmod 16 = ((n % 16 : Nat) : Int) := by rw [Int.tmod_eq_emod_of_nonneg (by omega)]; omega
  by_cases h0 : n = 0
  · subst h0
    go_enter Try.func38, Try.ntmps38
    go_wp2_with fail
    go_ret2
    exact ⟨rfl, Below.refl _ _⟩
  · have d0 : ((n : Int) == 0) = false := beq_eq_false_iff_ne.2 (by omega)
    by_cases h1 : n % 16 = 0
    · rw [h1] at hm
      have d2 : decide ((n : Int) > 65536) = true := decide_eq_true (by omega)
      go_enter Try.func38, Try.ntmps38
      go_wp2_with fail
      go_ret2
      exact ⟨rfl, Below.refl _ _⟩
    · have d2 : (((n % 16 : Nat) : Int) == 0) = false := beq_eq_false_iff_ne.2 (by omega)
      have d3 : (((n % 16 : Nat) : Int) != 0) = true := by rw [bne, d2]; rfl
      generalize n % 16 = m at *
      go_enter Try.func38, Try.ntmps38
      go_wp2_with fail
      go_ret2
      exact ⟨rfl, Below.refl _ _⟩

set_option maxHeartbeats 4000000 in
set_option maxRecDepth 100000 in
theorem r6turn_ok (w : World) (c1 c2 : Nat) (V W : Nat → Nat) (h1 : RefAt w c1 V) (h2 : RefAt w c2 W) (hV : ∀ i, V i < 256) (hW : ∀ i, W i < 256) (vt : Value) (tw : Nat → Nat) (ht : Bytes16 tw) (htw : TextAt w vt (tab tw)) (ao : Option Addr) (l : List Nat) (n cap : Nat) (en : l.length = n) (hl : TextAt w (.slice ao n cap) l) (hs : sectorB n = true) :
    Calls Try.prog 38 #[.pointer (some ⟨c1, 0, none⟩), .pointer (some ⟨c2, 0, none⟩), vt, .slice ao n cap, .bool false] w fun e w' => ∃ v, e = .returned (.tuple #[v, .int .i64 0]) ∧ Own w' w.heap.size 5 v (u8l (bytesOf (sec (turnF V) (turnF W tw) (byt l)) n)) ∧ Below w.heap.size w w' := by
  obtain ⟨hn0, hn16, hnm⟩ := of_decide_eq_true hs
  have hm : ((n : Int)).tmod 16 = 0 := by rw [Int.tmod_eq_emod_of_nonneg (by omega)]; omega
  have d0 : ((n : Int) == 0) = false := beq_eq_false_iff_ne.2 (by omega)
  have d2 : decide ((n : Int) > 65536) = false := decide_eq_false (by omega)
  have ct := rturn_at h2 hW vt tw ht htw
  obtain ⟨m, em⟩ : ∃ m, n = 16 * m := ⟨n / 16, by omega⟩
  have bM := bytes_turn hW ht
  obtain ⟨M, eM⟩ : ∃ M, M = turnF W tw := ⟨_, rfl⟩
  rw [← eM] at ct bM ⊢
  obtain ⟨F, eF⟩ : ∃ F, F = sec (turnF V) M (byt l) := ⟨_, rfl⟩
  rw [← eF]
  have sl := hl.small
  have hcap : n ≤ cap := by
    obtain ⟨a', c', e, q, _⟩ := hl.ex
    injection e with _ e2 e3
    omega
  have cuts := fun k (hk : k < m) => TextAt.cut (lo := 16 * k) (hi := 16 * k + 16) (by rw [en]; exact hl) (by omega) (by omega)
  have cutt : ∀ k, k < m → TextAt w (.slice (cutA ao cap (16 * k)) 16 (cap - 16 * k)) (tab (blk (byt l) k)) := fun k hk => by
    have h := cuts k hk
    rwa [show 16 * k + 16 - 16 * k = 16 by omega, blk_cut rfl (by omega)] at h
  clear cuts
  replace h1 := Lib.hid h1
  replace h2 := Lib.hid h2
  replace hV := Lib.hid hV
  replace hW := Lib.hid hW
  replace ht := Lib.hid ht
  replace htw := Lib.hid htw
  replace hl := Lib.hid hl
  replace hs := Lib.hid hs
  replace en := Lib.hid en
  replace hn0 := Lib.hid hn0
  replace hn16 := Lib.hid hn16
  replace hnm := Lib.hid hnm
  replace em := Lib.hid em
  replace bM := Lib.hid bM
  replace eM := Lib.hid eM
  replace eF := Lib.hid eF
  replace sl := Lib.hid sl
  replace hcap := Lib.hid hcap
  replace cutt := Lib.hid cutt
  replace ct := Lib.hid ct
  go_enter Try.func38, Try.ntmps38
  go_wp2_with fail
  refine ct.out.mono ?_
  rintro e w1 ⟨v1, rfl, o1, B1⟩
  have t1 := o1.text (tabs_lt bM.out)
  clear ct
  replace o1 := Lib.hid o1
  replace B1 := Lib.hid B1
  replace t1 := Lib.hid t1
  go_wp2_with fail
  go_loopw [12, 13, 14] (fun vm vo i wr => ∃ k a : Nat, k ≤ m ∧ a = 16 * k ∧ i = .int .i64 a ∧ Own wr w.heap.size 5 vm (u8l (tab (maskTo M k))) ∧ Own wr w.heap.size 5 vo (u8l (bytesOf F (16 * k))) ∧ Apart vm vo ∧ Below w.heap.size w wr) (fun _ _ i _ => n - (intOf i).toNat)
  case atStart => exact ⟨0, 0, Nat.zero_le _, rfl, rfl, o1.out, Own.nil _ _ _, fun q _ e => by simp [Value.ownBlock] at e, B1.out⟩
  case round =>
    clear o1 B1 t1
    obtain ⟨k, a, hk, ea, rfl, hM, hO, hA, hB⟩ := hrel
    by_cases hlt : k < m
    · have hn16k : a + 16 ≤ n := by have := em.out; omega
      have hn9 := hnm.out
      have d : decide ((a : Int) < (n : Int)) = true := decide_eq_true (by omega)
      have dn : decide (a < n) = true := decide_eq_true (by omega)
      have hcut := run_cut_lh (P := Try.prog) (T := 25) (e := 5) Try.underlying25 (by kernel_rfl) ao n cap a (a + 16) (by omega) (by have := hcap.out; omega) (a : Int) ((a : Int) + 16) rfl (by omega)
      rw [show a + 16 - a = 16 by omega] at hcut
      have tk := (cutt.out k hlt).below hB
      rw [← ea] at tk
      have cc := ref_copy wr _ _ tk (by rw [length_tab]; decide)
      have f0 : IntKind.i64.wrap ((a : Int) + 16) = (a : Int) + 16 := IntWalk.i64_in _ (by omega)
      have bX : Bytes16 (blk (byt l) k) := fun i hi => byt_lt sl.out _
      have en1 : bytesOf F (16 * (k + 1)) = bytesOf F (16 * k) ++ tab (under (turnF V) (maskTo M k) (blk (byt l) k)) := by rw [eF.out]; exact sec_next _ _ _ _
      have nl : (bytesOf F (16 * k)).length = 16 * k := length_bytesOf _ _
      have bK := maskTo_lt bM.out k
      have hT := hM.text (tabs_lt bK)
      have em1 : dblM (maskTo M k) = maskTo M (k + 1) := rfl
      generalize blk (byt l) k = X at *
      generalize maskTo M k = mk at *
      generalize bytesOf F (16 * k) = out at *
      clear tk
      replace ea := Lib.hid ea
      replace hT := Lib.hid hT
      replace hM := Lib.hid hM
      replace hA := Lib.hid hA
      replace hO := Lib.hid hO
      replace hB := Lib.hid hB
      replace hn16k := Lib.hid hn16k
      replace bX := Lib.hid bX
      replace en1 := Lib.hid en1
      replace nl := Lib.hid nl
      replace hk := Lib.hid hk
      replace hn9 := Lib.hid hn9
      replace bK := Lib.hid bK
      replace em1 := Lib.hid em1
      replace cc := Lib.hid cc
      go_wp2_with fail
      refine cc.out.mono ?_
      rintro e w2 ⟨v2, rfl, o2, B2⟩
      have low2 := hB.out.trans (B2.mono hB.out.size)
      have B22 := Lib.hid B2
      have hT2 := hT.out.below B2
      have cx := r6xored_any w2 v2 _ X mk bX.out bK.out (o2.text (tabs_lt bX.out)) hT2
      have hO2 := hO.out.below B2
      clear cc hB hT hO B2 o2
      replace low2 := Lib.hid low2
      replace hT2 := Lib.hid hT2
      replace cx := Lib.hid cx
      replace hO2 := Lib.hid hO2
      go_wp2_with fail
      refine cx.out.mono ?_
      rintro e w3 ⟨v3, rfl, o3, B3⟩
      have low3 := low2.out.trans (B3.mono low2.out.size)
      have B33 := Lib.hid (B22.out.trans (B3.mono B22.out.size))
      have hT3 := hT2.out.below B3
      have hO3 := hO2.out.below B3
      have b3 := xor16_lt bX.out bK.out
      have cy := rturn_at (h1.out.below low3) hV.out v3 (xor16 X mk) b3 (o3.text (tabs_lt b3))
      clear cx low2 hT2 hO2 B3 o3
      replace low3 := Lib.hid low3
      replace hT3 := Lib.hid hT3
      replace cy := Lib.hid cy
      replace hO3 := Lib.hid hO3
      replace b3 := Lib.hid b3
      go_wp2_with fail
      refine cy.out.mono ?_
      rintro e w4 ⟨v4, rfl, o4, B4⟩
      have low4 := low3.out.trans (B4.mono low3.out.size)
      have B44 := Lib.hid (B33.out.trans (B4.mono B33.out.size))
      have hT4 := hT3.out.below B4
      have hO4 := hO3.out.below B4
      have b4 := bytes_turn hV.out b3.out
      have cz := r6xored_any w4 v4 _ _ mk b4 bK.out (o4.text (tabs_lt b4)) hT4
      rw [show xor16 (turnF V (xor16 X mk)) mk = under (turnF V) mk X from rfl] at cz
      have b5 : Bytes16 (under (turnF V) mk X) := xor16_lt b4 bK.out
      clear cy low3 hT3 hO3 B4 o4 b4
      generalize under (turnF V) mk X = U at *
      replace low4 := Lib.hid low4
      replace hT4 := Lib.hid hT4
      replace cz := Lib.hid cz
      replace hO4 := Lib.hid hO4
      replace b5 := Lib.hid b5
      go_wp2_with fail
      refine cz.out.mono ?_
      rintro e w5 ⟨v5, rfl, o5, B5⟩
      have low5 := low4.out.trans (B5.mono low4.out.size)
      have B55 := Lib.hid (B44.out.trans (B5.mono B44.out.size))
      have hT5 := hT4.out.below B5
      have hO5 := hO4.out.below B5
      have tU := o5.text (tabs_lt b5.out)
      have lZ : out.length + (tab U).length ≤ 1000000000 := by rw [length_tab, nl.out]; have := hn9.out; have := hn16k.out; have := ea.out; omega
      have hM5 := hM.out.below B55.out
      clear cz low4 hT4 hO4 B5 o5
      replace low5 := Lib.hid low5
      replace hT5 := Lib.hid hT5
      replace hO5 := Lib.hid hO5
      replace tU := Lib.hid tU
      replace hM5 := Lib.hid hM5
      go_wp2_with (at_builtin; refine wpList_append_t (by rfl) (.tmp 54) (.tmp 57) rfl w.heap.size w _ out rfl hO5.out low5.out low5.out.size v5 (tab U) rfl tU.out lZ ?_; intro v9 w9 O9 B9 G9 H9)
      have hM9 := hM5.out.other fun q hq => G9.out.block q (hM5.out.lt q hq).2 fun e => hA.out q hq e.symm
      have cd := ref_double w9 _ mk bK.out (hM9.text (tabs_lt bK.out))
      clear hM9 hM5 hT5 hO5 G9 H9
      replace cd := Lib.hid cd
      refine cd.out.mono ?_
      rintro e wa ⟨va, rfl, oa, Ba⟩
      have low9 := B9.out.trans (Ba.mono B9.out.size)
      have hO9 := O9.out.below Ba
      have hA9 : Apart va v9 := fun q hq e => by have h1 := (oa.lt q hq).1; have h2 := (O9.out.lt q e).2; omega
      have oa' := oa.weaken B9.out.size
      rw [em1.out] at oa'
      rw [← en1.out] at hO9
      clear cd O9 B9 oa Ba
      replace low9 := Lib.hid low9
      replace hO9 := Lib.hid hO9
      replace hA9 := Lib.hid hA9
      replace oa' := Lib.hid oa'
      go_wp2_with fail
      go_roundw
      case rel => exact ⟨k + 1, a + 16, by omega, by have := ea.out; omega, by go_num, oa'.out, hO9.out, hA9.out, low9.out⟩
      case measure => simp [intOf]; have := hn16k.out; omega
    · obtain rfl : k = m := by omega
      have ean : a = n := by have := em.out; omega
      subst ean
      have d : decide ((a : Int) < (a : Int)) = false := decide_eq_false (by omega)
      have dn : decide (a < a) = false := decide_eq_false (by omega)
      rw [← ea] at hO
      replace hM := Lib.hid hM
      replace hA := Lib.hid hA
      replace hO := Lib.hid hO
      replace hB := Lib.hid hB
      replace ea := Lib.hid ea
      replace em := Lib.hid em
      go_wp2_with fail
      go_ret2
      exact ⟨_, rfl, hO.out, hB.out⟩
set_option maxHeartbeats 4000000 in
set_option maxRecDepth 100000 in
theorem r6back_bad (w : World) (vx vy vt : Value) (ao : Option Addr) (n cap : Nat) (hn : n < 9223372036854775808) (hb : sectorB n = false) :
    Calls Try.prog 38 #[vx, vy, vt, .slice ao n cap, .bool true] w fun e w' => e = .returned (.tuple #[.slice none 0 0, .int .i64 3]) ∧ Below w.heap.size w w' := by
  have hf := of_decide_eq_false hb
  clear hb
  have hm : ((n : Int)).tmod 16 = ((n % 16 : Nat) : Int) := by rw [Int.tmod_eq_emod_of_nonneg (by omega)]; omega
  by_cases h0 : n = 0
  · subst h0
    go_enter Try.func38, Try.ntmps38
    go_wp2_with fail
    go_ret2
    exact ⟨rfl, Below.refl _ _⟩
  · have d0 : ((n : Int) == 0) = false := beq_eq_false_iff_ne.2 (by omega)
    by_cases h1 : n % 16 = 0
    · rw [h1] at hm
      have d2 : decide ((n : Int) > 65536) = true := decide_eq_true (by omega)
      go_enter Try.func38, Try.ntmps38
      go_wp2_with fail
      go_ret2
      exact ⟨rfl, Below.refl _ _⟩
    · have d2 : (((n % 16 : Nat) : Int) == 0) = false := beq_eq_false_iff_ne.2 (by omega)
      have d3 : (((n % 16 : Nat) : Int) != 0) = true := by rw [bne, d2]; rfl
      generalize n % 16 = m at *
      go_enter Try.func38, Try.ntmps38
      go_wp2_with fail
      go_ret2
      exact ⟨rfl, Below.refl _ _⟩

set_option maxHeartbeats 4000000 in
set_option maxRecDepth 100000 in
theorem r6back_ok (w : World) (c1 c2 : Nat) (V W : Nat → Nat) (h1 : RefAt w c1 V) (h2 : RefAt w c2 W) (hV : ∀ i, V i < 256) (hW : ∀ i, W i < 256) (vt : Value) (tw : Nat → Nat) (ht : Bytes16 tw) (htw : TextAt w vt (tab tw)) (ao : Option Addr) (l : List Nat) (n cap : Nat) (en : l.length = n) (hl : TextAt w (.slice ao n cap) l) (hs : sectorB n = true) :
    Calls Try.prog 38 #[.pointer (some ⟨c1, 0, none⟩), .pointer (some ⟨c2, 0, none⟩), vt, .slice ao n cap, .bool true] w fun e w' => ∃ v, e = .returned (.tuple #[v, .int .i64 0]) ∧ Own w' w.heap.size 5 v (u8l (bytesOf (sec (backF V) (turnF W tw) (byt l)) n)) ∧ Below w.heap.size w w' := by
  obtain ⟨hn0, hn16, hnm⟩ := of_decide_eq_true hs
  have hm : ((n : Int)).tmod 16 = 0 := by rw [Int.tmod_eq_emod_of_nonneg (by omega)]; omega
  have d0 : ((n : Int) == 0) = false := beq_eq_false_iff_ne.2 (by omega)
  have d2 : decide ((n : Int) > 65536) = false := decide_eq_false (by omega)
  have ct := rturn_at h2 hW vt tw ht htw
  obtain ⟨m, em⟩ : ∃ m, n = 16 * m := ⟨n / 16, by omega⟩
  have bM := bytes_turn hW ht
  obtain ⟨M, eM⟩ : ∃ M, M = turnF W tw := ⟨_, rfl⟩
  rw [← eM] at ct bM ⊢
  obtain ⟨F, eF⟩ : ∃ F, F = sec (backF V) M (byt l) := ⟨_, rfl⟩
  rw [← eF]
  have sl := hl.small
  have hcap : n ≤ cap := by
    obtain ⟨a', c', e, q, _⟩ := hl.ex
    injection e with _ e2 e3
    omega
  have cuts := fun k (hk : k < m) => TextAt.cut (lo := 16 * k) (hi := 16 * k + 16) (by rw [en]; exact hl) (by omega) (by omega)
  have cutt : ∀ k, k < m → TextAt w (.slice (cutA ao cap (16 * k)) 16 (cap - 16 * k)) (tab (blk (byt l) k)) := fun k hk => by
    have h := cuts k hk
    rwa [show 16 * k + 16 - 16 * k = 16 by omega, blk_cut rfl (by omega)] at h
  clear cuts
  replace h1 := Lib.hid h1
  replace h2 := Lib.hid h2
  replace hV := Lib.hid hV
  replace hW := Lib.hid hW
  replace ht := Lib.hid ht
  replace htw := Lib.hid htw
  replace hl := Lib.hid hl
  replace hs := Lib.hid hs
  replace en := Lib.hid en
  replace hn0 := Lib.hid hn0
  replace hn16 := Lib.hid hn16
  replace hnm := Lib.hid hnm
  replace em := Lib.hid em
  replace bM := Lib.hid bM
  replace eM := Lib.hid eM
  replace eF := Lib.hid eF
  replace sl := Lib.hid sl
  replace hcap := Lib.hid hcap
  replace cutt := Lib.hid cutt
  replace ct := Lib.hid ct
  go_enter Try.func38, Try.ntmps38
  go_wp2_with fail
  refine ct.out.mono ?_
  rintro e w1 ⟨v1, rfl, o1, B1⟩
  have t1 := o1.text (tabs_lt bM.out)
  clear ct
  replace o1 := Lib.hid o1
  replace B1 := Lib.hid B1
  replace t1 := Lib.hid t1
  go_wp2_with fail
  go_loopw [12, 13, 14] (fun vm vo i wr => ∃ k a : Nat, k ≤ m ∧ a = 16 * k ∧ i = .int .i64 a ∧ Own wr w.heap.size 5 vm (u8l (tab (maskTo M k))) ∧ Own wr w.heap.size 5 vo (u8l (bytesOf F (16 * k))) ∧ Apart vm vo ∧ Below w.heap.size w wr) (fun _ _ i _ => n - (intOf i).toNat)
  case atStart => exact ⟨0, 0, Nat.zero_le _, rfl, rfl, o1.out, Own.nil _ _ _, fun q _ e => by simp [Value.ownBlock] at e, B1.out⟩
  case round =>
    clear o1 B1 t1
    obtain ⟨k, a, hk, ea, rfl, hM, hO, hA, hB⟩ := hrel
    by_cases hlt : k < m
    · have hn16k : a + 16 ≤ n := by have := em.out; omega
      have hn9 := hnm.out
      have d : decide ((a : Int) < (n : Int)) = true := decide_eq_true (by omega)
      have dn : decide (a < n) = true := decide_eq_true (by omega)
      have hcut := run_cut_lh (P := Try.prog) (T := 25) (e := 5) Try.underlying25 (by kernel_rfl) ao n cap a (a + 16) (by omega) (by have := hcap.out; omega) (a : Int) ((a : Int) + 16) rfl (by omega)
      rw [show a + 16 - a = 16 by omega] at hcut
      have tk := (cutt.out k hlt).below hB
      rw [← ea] at tk
      have cc := ref_copy wr _ _ tk (by rw [length_tab]; decide)
      have f0 : IntKind.i64.wrap ((a : Int) + 16) = (a : Int) + 16 := IntWalk.i64_in _ (by omega)
      have bX : Bytes16 (blk (byt l) k) := fun i hi => byt_lt sl.out _
      have en1 : bytesOf F (16 * (k + 1)) = bytesOf F (16 * k) ++ tab (under (backF V) (maskTo M k) (blk (byt l) k)) := by rw [eF.out]; exact sec_next _ _ _ _
      have nl : (bytesOf F (16 * k)).length = 16 * k := length_bytesOf _ _
      have bK := maskTo_lt bM.out k
      have hT := hM.text (tabs_lt bK)
      have em1 : dblM (maskTo M k) = maskTo M (k + 1) := rfl
      generalize blk (byt l) k = X at *
      generalize maskTo M k = mk at *
      generalize bytesOf F (16 * k) = out at *
      clear tk
      replace ea := Lib.hid ea
      replace hT := Lib.hid hT
      replace hM := Lib.hid hM
      replace hA := Lib.hid hA
      replace hO := Lib.hid hO
      replace hB := Lib.hid hB
      replace hn16k := Lib.hid hn16k
      replace bX := Lib.hid bX
      replace en1 := Lib.hid en1
      replace nl := Lib.hid nl
      replace hk := Lib.hid hk
      replace hn9 := Lib.hid hn9
      replace bK := Lib.hid bK
      replace em1 := Lib.hid em1
      replace cc := Lib.hid cc
      go_wp2_with fail
      refine cc.out.mono ?_
      rintro e w2 ⟨v2, rfl, o2, B2⟩
      have low2 := hB.out.trans (B2.mono hB.out.size)
      have B22 := Lib.hid B2
      have hT2 := hT.out.below B2
      have cx := r6xored_any w2 v2 _ X mk bX.out bK.out (o2.text (tabs_lt bX.out)) hT2
      have hO2 := hO.out.below B2
      clear cc hB hT hO B2 o2
      replace low2 := Lib.hid low2
      replace hT2 := Lib.hid hT2
      replace cx := Lib.hid cx
      replace hO2 := Lib.hid hO2
      go_wp2_with fail
      refine cx.out.mono ?_
      rintro e w3 ⟨v3, rfl, o3, B3⟩
      have low3 := low2.out.trans (B3.mono low2.out.size)
      have B33 := Lib.hid (B22.out.trans (B3.mono B22.out.size))
      have hT3 := hT2.out.below B3
      have hO3 := hO2.out.below B3
      have b3 := xor16_lt bX.out bK.out
      have cy := rback_at (h1.out.below low3) hV.out v3 (xor16 X mk) b3 (o3.text (tabs_lt b3))
      clear cx low2 hT2 hO2 B3 o3
      replace low3 := Lib.hid low3
      replace hT3 := Lib.hid hT3
      replace cy := Lib.hid cy
      replace hO3 := Lib.hid hO3
      replace b3 := Lib.hid b3
      go_wp2_with fail
      refine cy.out.mono ?_
      rintro e w4 ⟨v4, rfl, o4, B4⟩
      have low4 := low3.out.trans (B4.mono low3.out.size)
      have B44 := Lib.hid (B33.out.trans (B4.mono B33.out.size))
      have hT4 := hT3.out.below B4
      have hO4 := hO3.out.below B4
      have b4 := bytes_back hV.out b3.out
      have cz := r6xored_any w4 v4 _ _ mk b4 bK.out (o4.text (tabs_lt b4)) hT4
      rw [show xor16 (backF V (xor16 X mk)) mk = under (backF V) mk X from rfl] at cz
      have b5 : Bytes16 (under (backF V) mk X) := xor16_lt b4 bK.out
      clear cy low3 hT3 hO3 B4 o4 b4
      generalize under (backF V) mk X = U at *
      replace low4 := Lib.hid low4
      replace hT4 := Lib.hid hT4
      replace cz := Lib.hid cz
      replace hO4 := Lib.hid hO4
      replace b5 := Lib.hid b5
      go_wp2_with fail
      refine cz.out.mono ?_
      rintro e w5 ⟨v5, rfl, o5, B5⟩
      have low5 := low4.out.trans (B5.mono low4.out.size)
      have B55 := Lib.hid (B44.out.trans (B5.mono B44.out.size))
      have hT5 := hT4.out.below B5
      have hO5 := hO4.out.below B5
      have tU := o5.text (tabs_lt b5.out)
      have lZ : out.length + (tab U).length ≤ 1000000000 := by rw [length_tab, nl.out]; have := hn9.out; have := hn16k.out; have := ea.out; omega
      have hM5 := hM.out.below B55.out
      clear cz low4 hT4 hO4 B5 o5
      replace low5 := Lib.hid low5
      replace hT5 := Lib.hid hT5
      replace hO5 := Lib.hid hO5
      replace tU := Lib.hid tU
      replace hM5 := Lib.hid hM5
      go_wp2_with (at_builtin; refine wpList_append_t (by rfl) (.tmp 54) (.tmp 57) rfl w.heap.size w _ out rfl hO5.out low5.out low5.out.size v5 (tab U) rfl tU.out lZ ?_; intro v9 w9 O9 B9 G9 H9)
      have hM9 := hM5.out.other fun q hq => G9.out.block q (hM5.out.lt q hq).2 fun e => hA.out q hq e.symm
      have cd := ref_double w9 _ mk bK.out (hM9.text (tabs_lt bK.out))
      clear hM9 hM5 hT5 hO5 G9 H9
      replace cd := Lib.hid cd
      refine cd.out.mono ?_
      rintro e wa ⟨va, rfl, oa, Ba⟩
      have low9 := B9.out.trans (Ba.mono B9.out.size)
      have hO9 := O9.out.below Ba
      have hA9 : Apart va v9 := fun q hq e => by have h1 := (oa.lt q hq).1; have h2 := (O9.out.lt q e).2; omega
      have oa' := oa.weaken B9.out.size
      rw [em1.out] at oa'
      rw [← en1.out] at hO9
      clear cd O9 B9 oa Ba
      replace low9 := Lib.hid low9
      replace hO9 := Lib.hid hO9
      replace hA9 := Lib.hid hA9
      replace oa' := Lib.hid oa'
      go_wp2_with fail
      go_roundw
      case rel => exact ⟨k + 1, a + 16, by omega, by have := ea.out; omega, by go_num, oa'.out, hO9.out, hA9.out, low9.out⟩
      case measure => simp [intOf]; have := hn16k.out; omega
    · obtain rfl : k = m := by omega
      have ean : a = n := by have := em.out; omega
      subst ean
      have d : decide ((a : Int) < (a : Int)) = false := decide_eq_false (by omega)
      have dn : decide (a < a) = false := decide_eq_false (by omega)
      rw [← ea] at hO
      replace hM := Lib.hid hM
      replace hA := Lib.hid hA
      replace hO := Lib.hid hO
      replace hB := Lib.hid hB
      replace ea := Lib.hid ea
      replace em := Lib.hid em
      go_wp2_with fail
      go_ret2
      exact ⟨_, rfl, hO.out, hB.out⟩
end Go.Proofs.Ytecmagenlbnchaa
namespace Go.Proofs.Ytecmagenlbnchaa
set_option maxRecDepth 100000
open Go.RowKit

/-- Word i of a text. -/
def wordL (S : Nat → Nat) (i : Nat) : List Nat := bytesOf (fun j => S (8 * i + j)) 8
theorem length_wordL (S : Nat → Nat) (i : Nat) : (wordL S i).length = 8 := length_bytesOf _ _
theorem word_cut {t : List Nat} {k : Nat} (h : 8 * k + 8 ≤ t.length) : (t.drop (8 * k)).take 8 = wordL (byt t) k := cut_bytes h

set_option maxHeartbeats 4000000 in
set_option maxRecDepth 100000 in
theorem r7words_any (w : World) (v : Value) (t : List Nat) (m q : Nat) (em : t.length = m) (hq : m = 8 * q) (hm : m ≤ 1000) (ht : TextAt w v t) :
    Calls Try.prog 71 #[v] w fun e w' => ∃ v' vs, e = .returned v' ∧ Own w' w.heap.size 25 v' vs ∧ vs.length = q ∧ (∀ (i : Nat) (u : Value), vs[i]? = some u → Own w' w.heap.size 5 u (u8l (wordL (byt t) i))) ∧ Below w.heap.size w w' := by
  obtain ⟨ao, cap, rfl, hcap, _⟩ := ht.ex
  have cuts := fun k (hk : k < q) => TextAt.cut (lo := 8 * k) (hi := 8 * k + 8) ht (by omega) (by omega)
  have cutt : ∀ k, k < q → TextAt w (.slice (cutA ao cap (8 * k)) 8 (cap - 8 * k)) (wordL (byt t) k) := fun k hk => by
    have h := cuts k hk
    rwa [show 8 * k + 8 - 8 * k = 8 by omega, word_cut (by omega)] at h
  rw [em] at hcap ⊢
  have hs := ht.small
  clear cuts
  replace ht := Lib.hid ht
  replace cutt := Lib.hid cutt
  replace em := Lib.hid em
  replace hs := Lib.hid hs
  replace hcap := Lib.hid hcap
  replace hq := Lib.hid hq
  replace hm := Lib.hid hm
  go_enter Try.func71, Try.ntmps71
  go_wp2_with fail
  go_loopw [3, 4] (fun vo i wr => ∃ (k a : Nat) (vs : List Value), k ≤ q ∧ a = 8 * k ∧ i = .int .i64 a ∧ Own wr w.heap.size 25 vo vs ∧ vs.length = k ∧ (∀ (j : Nat) (u : Value), vs[j]? = some u → Own wr w.heap.size 5 u (u8l (wordL (byt t) j))) ∧ Below w.heap.size w wr) (fun _ i _ => m - (intOf i).toNat)
  case atStart => exact ⟨0, 0, [], Nat.zero_le _, rfl, rfl, Own.nil _ _ _, rfl, fun j u e => by simp at e, Below.refl _ _⟩
  case round =>
    obtain ⟨k, a, vs, hk, ea, rfl, hO, hl, hel, hB⟩ := hrel
    by_cases hlt : k < q
    · have ha8 : a + 8 ≤ m := by have := hq.out; omega
      have hm9 := hm.out
      have d : decide ((a : Int) < (m : Int)) = true := decide_eq_true (by omega)
      have dn : decide (a < m) = true := decide_eq_true (by omega)
      have hcut := run_cut_lh (P := Try.prog) (T := 25) (e := 5) Try.underlying25 (by kernel_rfl) ao m cap a (a + 8) (by omega) (by have := hcap.out; omega) (a : Int) ((a : Int) + 8) rfl (by omega)
      rw [show a + 8 - a = 8 by omega] at hcut
      have tk := (cutt.out k hlt).below hB
      rw [← ea] at tk
      have cc := ref_copy wr _ _ tk (by rw [length_wordL]; decide)
      have f0 : IntKind.i64.wrap ((a : Int) + 8) = (a : Int) + 8 := IntWalk.i64_in _ (by omega)
      have sW : ∀ x ∈ wordL (byt t) k, x < 256 := bytesOf_lt fun j _ => byt_lt hs.out _
      clear tk
      replace ea := Lib.hid ea
      replace hO := Lib.hid hO
      replace hl := Lib.hid hl
      replace hel := Lib.hid hel
      replace hB := Lib.hid hB
      replace ha8 := Lib.hid ha8
      replace cc := Lib.hid cc
      replace hm9 := Lib.hid hm9
      replace hk := Lib.hid hk
      replace sW := Lib.hid sW
      go_wp2_with fail
      refine cc.out.mono ?_
      rintro e w2 ⟨v2, rfl, o2, B2⟩
      obtain ⟨a2, n2, c2, rfl⟩ := o2.shape
      have low2 := hB.out.trans (B2.mono hB.out.size)
      have Ba : Below w2.heap.size w2 (w2.alloc (.cells #[.slice a2 n2 c2] 25)) := (Below.refl _ _).alloc (Nat.le_refl _) _
      have lowa := low2.trans (Ba.mono low2.size)
      have hOa := (hO.out.below B2).below Ba
      have hela := fun j u (e : vs[j]? = some u) => ((hel.out j u e).below B2).below Ba
      have o2a := (o2.weaken hB.out.size).below Ba
      have hs1 : vs.length + 1 ≤ 1000000000 := by have := hl.out; have := hk.out; have := hq.out; have := hm.out; omega
      clear cc hO hel o2 B2 Ba low2
      replace lowa := Lib.hid lowa
      replace hOa := Lib.hid hOa
      replace hela := Lib.hid hela
      replace o2a := Lib.hid o2a
      go_wp2_with (at_builtin; refine wpList_append_x rfl (.tmp 11) (.tmp 18) 44 rfl 25 Try.underlying44 (.slice none 0 0) 24 infoRow5 rfl (by decide) w.heap.size w _ vs rfl hOa.out lowa.out lowa.out.size (some ⟨w2.heap.size, 0, none⟩) 1 1 [.slice a2 n2 c2] rfl rfl (fun e => by simp at e) one_cell (by intro u hu; simp at hu; subst hu; rfl) hs1 ?_; intro v9 w9 O9 B9 G9 H9)
      have keep : ∀ {u : Value} {xs : List Value}, Own (w2.alloc (.cells #[.slice a2 n2 c2] 25)) w.heap.size 5 u xs → Own w9 w.heap.size 5 u xs := fun {u xs} hu => hu.other fun p hp => G9.out.block p (hu.lt p hp).2 (own_apart hu hOa.out p hp)
      have hel9 : ∀ (j : Nat) (u : Value), (vs ++ [Value.slice a2 n2 c2])[j]? = some u → Own w9 w.heap.size 5 u (u8l (wordL (byt t) j)) := fun j u e => by
        by_cases hj : j < vs.length
        · rw [List.getElem?_append_left hj] at e
          exact keep (hela.out j u e)
        · have hj2 : j = vs.length := by
            have := (List.getElem?_eq_some_iff.1 e).1
            simp at this; omega
          rw [hj2, List.getElem?_append_right (Nat.le_refl _), Nat.sub_self] at e
          obtain rfl : Value.slice a2 n2 c2 = u := by simpa using e
          rw [hj2, hl.out]
          exact keep o2a.out
      clear keep hOa hela o2a G9 H9
      replace hel9 := Lib.hid hel9
      go_roundw
      case rel => exact ⟨k + 1, a + 8, _, by omega, by have := ea.out; omega, by go_num, O9.out, by simp [hl.out], hel9.out, B9.out⟩
      case measure => simp [intOf]; have := ha8.out; omega
    · obtain rfl : k = q := by omega
      have ean : a = m := by have := hq.out; omega
      subst ean
      have d : decide ((a : Int) < (a : Int)) = false := decide_eq_false (by omega)
      have dn : decide (a < a) = false := decide_eq_false (by omega)
      replace hO := Lib.hid hO
      replace hl := Lib.hid hl
      replace hel := Lib.hid hel
      replace hB := Lib.hid hB
      replace ea := Lib.hid ea
      go_wp2_with fail
      go_ret
      exact ⟨_, _, rfl, hO.out, hl.out, hel.out, hB.out⟩

set_option maxHeartbeats 4000000 in
set_option maxRecDepth 100000 in
theorem r7join_any (w : World) (va : Value) (A : List Nat) (ha : TextAt w va A) (ao : Option Addr) (n cap : Nat) (ls : List (List Nat)) (hn : ls.length = n) (ht : TextsAt w ao ls) (hlen : A.length + ls.flatten.length ≤ 100000) (hn9 : n ≤ 1000) :
    Calls Try.prog 72 #[va, .slice ao n cap] w fun e w' => ∃ v', e = .returned v' ∧ Own w' w.heap.size 5 v' (u8l (A ++ ls.flatten)) ∧ Below w.heap.size w w' := by
  have cc := ref_copy w va A ha (by omega)
  replace ha := Lib.hid ha
  replace hn := Lib.hid hn
  replace ht := Lib.hid ht
  replace hlen := Lib.hid hlen
  replace cc := Lib.hid cc
  go_enter Try.func72, Try.ntmps72
  go_wp2_with fail
  refine cc.out.mono ?_
  rintro e w1 ⟨v1, rfl, o1, B1⟩
  clear cc
  replace o1 := Lib.hid o1
  replace B1 := Lib.hid B1
  go_wp2_with fail
  go_loopw [5, 6] (fun vo i wr => ∃ k : Nat, k ≤ n ∧ i = .int .i64 k ∧ Own wr w.heap.size 5 vo (u8l (A ++ joinTo ls k)) ∧ Below w.heap.size w wr) (fun _ i _ => n - (intOf i).toNat)
  case atStart => exact ⟨0, Nat.zero_le _, rfl, by simpa [joinTo] using o1.out, B1.out⟩
  case round =>
    clear o1 B1
    obtain ⟨k, hk, rfl, hO, hB⟩ := hrel
    by_cases hlt : k < n
    · have hk2 : k < ls.length := by rw [hn.out]; exact hlt
      obtain ⟨ob, oo, rfl, ai, ci, h1, h2, h3, h4⟩ := ht.out k hk2
      have tk : TextAt w (.slice ai (ls.getD k []).length ci) (ls.getD k []) := ⟨ai, ci, rfl, h2, h4, h3⟩
      have js := joinTo_succ ls hk2
      have jl := joinTo_le ls (k + 1)
      have c1 := (hB.cell (block_lt_of_cell h1)).trans h1
      have t1 := tk.below hB
      have d : decide (k < n) = true := decide_eq_true hlt
      have iK : (k : Int) < (n : Int) := by omega
      have lZ : (A ++ joinTo ls k).length + (ls.getD k []).length ≤ 1000000000 := by
        rw [js, List.length_append] at jl
        have := hlen.out
        rw [List.length_append]
        omega
      obtain ⟨tn, etn⟩ : ∃ tn, tn = (ls.getD k []).length := ⟨_, rfl⟩
      rw [← etn] at c1 t1
      generalize ls.getD k [] = T at *
      clear h1 h2 h3 h4 tk jl
      replace hO := Lib.hid hO
      replace hB := Lib.hid hB
      replace js := Lib.hid js
      replace t1 := Lib.hid t1
      replace etn := Lib.hid etn
      go_wp2_with (at_builtin; refine wpList_append_s (by rfl) (.tmp 15) (.tmp 19) rfl w.heap.size w _ (A ++ joinTo ls k) rfl hO.out hB.out hB.out.size (.slice ai tn ci) T rfl t1.out lZ ?_; intro v9 w9 O9 B9)
      go_roundw
      case rel => exact ⟨k + 1, by omega, by go_num, by rw [js.out, ← List.append_assoc]; exact O9.out, B9.out⟩
      case measure => simp [intOf]; omega
    · obtain rfl : k = n := by omega
      have d : decide (k < k) = false := decide_eq_false (by omega)
      have ej : joinTo ls k = ls.flatten := by rw [← hn.out]; exact joinTo_full ls
      rw [ej] at hO
      replace hO := Lib.hid hO
      replace hB := Lib.hid hB
      replace ej := Lib.hid ej
      go_wp2_with fail
      go_ret
      exact ⟨_, rfl, hO.out, hB.out⟩

theorem byt_be (M : Nat) {i : Nat} (hi : i < 8) : byt (beBytes 8 M) i = M / 256 ^ (7 - i) % 256 := by
  unfold beBytes byt
  simp [List.getD, hi]
set_option maxHeartbeats 4000000 in
set_option maxRecDepth 100000 in
theorem r7mixed_any (w : World) (va : Value) (x : Nat → Nat) (hx : ∀ i, i < 8 → x i < 256) (ha : TextAt w va (bytesOf x 8)) (M : Nat) (hM : M < 4294967296) :
    Calls Try.prog 73 #[va, .int .i64 (M : Int)] w fun e w' => ∃ v', e = .returned v' ∧ Own w' w.heap.size 5 v' (u8l (bytesOf (wmix x M) 8)) ∧ Below w.heap.size w w' := by
  have f1 : IntKind.u64.wrap (M : Int) = (M : Int) := IntWalk.u64_in _ (by omega)
  have cb := ref_bytes w M 8 (by decide) (by omega)
  simp only [show ((8 : Nat) : Int) = 8 from rfl] at cb
  replace hx := Lib.hid hx
  replace ha := Lib.hid ha
  replace hM := Lib.hid hM
  replace cb := Lib.hid cb
  go_enter Try.func73, Try.ntmps73
  go_wp2_with fail
  refine cb.out.mono ?_
  rintro e w1 ⟨v1, rfl, o1, B1⟩
  have hu := o1.text (beBytes_lt 8 M)
  have hv := ha.out.below B1
  obtain ⟨ax, cx, rfl, nx⟩ := hv.nth
  obtain ⟨ay, cy, rfl, ny⟩ := hu.nth
  have lb : (beBytes 8 M).length = 8 := by simp [beBytes]
  rw [length_bytesOf] at nx ⊢
  rw [lb] at ny ⊢
  clear cb
  replace hv := Lib.hid hv
  replace hu := Lib.hid hu
  replace nx := Lib.hid nx
  replace ny := Lib.hid ny
  replace o1 := Lib.hid o1
  replace B1 := Lib.hid B1
  replace lb := Lib.hid lb
  go_wp2_with fail
  go_loopw [6, 7] (fun o i wr => ∃ k : Nat, k ≤ 8 ∧ i = .int .i64 k ∧ Own wr w1.heap.size 5 o (u8l (bytesOf (wmix x M) k)) ∧ Below w1.heap.size w1 wr) (fun _ i _ => 8 - (intOf i).toNat)
  case atStart => exact ⟨0, Nat.zero_le _, rfl, Own.nil _ _ _, Below.refl _ _⟩
  case round =>
    obtain ⟨k, hk, rfl, hO, hB⟩ := hrel
    by_cases hlt : k < 8
    · obtain ⟨xb, xo, rfl, cX⟩ := nx.out k hlt
      obtain ⟨yb, yo, rfl, cY⟩ := ny.out k hlt
      rw [byt_bytesOf x hlt] at cX
      rw [byt_be M hlt] at cY
      have bx := hx.out k hlt
      have by' : M / 256 ^ (7 - k) % 256 < 256 := Nat.mod_lt _ (by decide)
      have keyX : ∀ w2, Below w1.heap.size w1 w2 → w2.cell? ⟨xb, xo + k, none⟩ = some (.int .u8 (x k : Int)) := fun w2 hB1 => (hB1.cell (block_lt_of_cell cX)).trans cX
      have keyY : ∀ w2, Below w1.heap.size w1 w2 → w2.cell? ⟨yb, yo + k, none⟩ = some (.int .u8 ((M / 256 ^ (7 - k) % 256 : Nat) : Int)) := fun w2 hB1 => (hB1.cell (block_lt_of_cell cY)).trans cY
      have ev := u8_xor_nat (x k) (M / 256 ^ (7 - k) % 256) bx by'
      have ld : wmix x M k < 256 := by unfold wmix; rw [if_pos hlt]; exact xor_lt8 bx by'
      have ed : x k ^^^ (M / 256 ^ (7 - k) % 256) = wmix x M k := by unfold wmix; rw [if_pos hlt]
      rw [ed] at ev
      have sn := bytesOf_snoc (wmix x M) k
      have hs := hB.size
      have ll : (bytesOf (wmix x M) k).length = k := length_bytesOf _ _
      generalize bytesOf (wmix x M) k = L at *
      generalize wmix x M k = d at *
      generalize x k = xx at *
      generalize M / 256 ^ (7 - k) % 256 = y at *
      have iX : (k : Int) < 8 := by omega
      have hBd : Below w1.heap.size w1 wr.drew := hB.drew
      have c1 := keyX _ hBd
      have c2 := keyY _ hBd
      have t1 := lit1 (wx := wr.drew) ld
      have hB1 : Below w1.heap.size w1 (wr.drew.alloc (.cells #[.int .u8 (d : Int)] 5)) := hBd.alloc hs _
      have O1 : Own (wr.drew.alloc (.cells #[.int .u8 (d : Int)] 5)) w1.heap.size 5 _ _ := hO.drew.alloc _
      clear cX cY ed
      replace hO := Lib.hid hO
      replace hB := Lib.hid hB
      replace sn := Lib.hid sn
      replace keyX := Lib.hid keyX
      replace keyY := Lib.hid keyY
      replace bx := Lib.hid bx
      replace by' := Lib.hid by'
      replace ld := Lib.hid ld
      replace t1 := Lib.hid t1
      replace hB1 := Lib.hid hB1
      replace O1 := Lib.hid O1
      replace hBd := Lib.hid hBd
      go_wp2_with fail
      refine wp_region_held_drew (S := (fun w' => w'.cell? ⟨xb, xo + k, none⟩ = some (.int .u8 (xx : Int)) ∧ w'.cell? ⟨yb, yo + k, none⟩ = some (.int .u8 (y : Int)))) (by kernel_rfl) (⟨c1, c2⟩) (fun hHeld => ?_)
      refine held_take (i := 0) (v := ?_) rfl (by kernel_rfl) (by kernel_rfl) (by kernel_rfl) (fun _ _ _ h => h) (Or.inl ⟨by rfl, ?_⟩) (by assumption) ?_
      rotate_left
      · intro w hSw; (try dsimp only at hSw); go_simp; try with_reducible rfl
      try simp only [Act.put, List.setIfInBounds_toArray, List.set_cons_zero, List.set_cons_succ]
      refine held_take (i := 1) (v := ?_) rfl (by kernel_rfl) (by kernel_rfl) (by kernel_rfl) (fun _ _ _ h => h) (Or.inl ⟨by rfl, ?_⟩) (by assumption) ?_
      rotate_left
      · intro w hSw; (try dsimp only at hSw); go_simp; try with_reducible rfl
      try simp only [Act.put, List.setIfInBounds_toArray, List.set_cons_zero, List.set_cons_succ]
      refine held_take (i := 2) (v := ?_) rfl (by kernel_rfl) (by kernel_rfl) (by kernel_rfl) (fun _ _ _ h => h) (Or.inl ⟨by rfl, ?_⟩) (by assumption) ?_
      rotate_left
      · intro w hSw; (try dsimp only at hSw); go_simp; try with_reducible rfl
      try simp only [Act.put, List.setIfInBounds_toArray, List.set_cons_zero, List.set_cons_succ]
      refine held_take (i := 3) (v := ?_) rfl (by kernel_rfl) (by kernel_rfl) (by kernel_rfl) (fun _ _ _ h => h) (Or.inl ⟨by rfl, ?_⟩) (by assumption) ?_
      rotate_left
      · intro w hSw; (try dsimp only at hSw); go_simp; try with_reducible rfl
      try simp only [Act.put, List.setIfInBounds_toArray, List.set_cons_zero, List.set_cons_succ]
      refine held_take (i := 4) (v := ?_) rfl (by kernel_rfl) (by kernel_rfl) (by kernel_rfl) (fun _ _ _ h => h) (Or.inl ⟨by rfl, ?_⟩) (by assumption) ?_
      rotate_left
      · intro w hSw; (try dsimp only at hSw); go_simp; try with_reducible rfl
      try simp only [Act.put, List.setIfInBounds_toArray, List.set_cons_zero, List.set_cons_succ]
      refine held_take (i := 5) (v := ?_) rfl (by kernel_rfl) (by kernel_rfl) (by kernel_rfl) (fun _ _ _ h => h) (Or.inl ⟨by rfl, ?_⟩) (by assumption) ?_
      rotate_left
      · intro w hSw; (try dsimp only at hSw); go_simp; try with_reducible rfl
      try simp only [Act.put, List.setIfInBounds_toArray, List.set_cons_zero, List.set_cons_succ]
      refine held_take (i := 6) (v := ?_) rfl (by kernel_rfl) (by kernel_rfl) (by kernel_rfl) (fun _ _ _ h => h) (Or.inl ⟨by rfl, ?_⟩) (by assumption) ?_
      rotate_left
      · intro w hSw; (try dsimp only at hSw); go_simp; try with_reducible rfl
      try simp only [Act.put, List.setIfInBounds_toArray, List.set_cons_zero, List.set_cons_succ]
      refine held_take (i := 7) (v := ?_) rfl (by kernel_rfl) (by kernel_rfl) (by kernel_rfl) (fun _ _ _ h => h) (Or.inl ⟨by rfl, ?_⟩) (by assumption) ?_
      rotate_left
      · intro w hSw; (try dsimp only at hSw); go_simp; try with_reducible rfl
      try simp only [Act.put, List.setIfInBounds_toArray, List.set_cons_zero, List.set_cons_succ]
      refine held_take (i := 8) (v := ?_) rfl (by kernel_rfl) (by kernel_rfl) (by kernel_rfl) (fun _ _ _ h => h) (Or.inl ⟨by rfl, ?_⟩) (by assumption) ?_
      rotate_left
      · intro w hSw; (try dsimp only at hSw); go_simp; try with_reducible rfl
      try simp only [Act.put, List.setIfInBounds_toArray, List.set_cons_zero, List.set_cons_succ]
      refine held_take (i := 9) (v := ?_) rfl (by kernel_rfl) (by kernel_rfl) (by kernel_rfl) (fun _ _ _ h => h) (Or.inl ⟨by rfl, ?_⟩) (by assumption) ?_
      rotate_left
      · intro w hSw; (try dsimp only at hSw); go_simp; try with_reducible rfl
      try simp only [Act.put, List.setIfInBounds_toArray, List.set_cons_zero, List.set_cons_succ]
      refine held_ready (i := 10) rfl (by kernel_rfl) (fun K hK => ?_)
      rw [if_pos (by rfl)]
      go_simp
      refine hK.out _ _ (⟨keyX.out _ hB1.out, keyY.out _ hB1.out⟩) (fun hHeldN => ?_)
      clear hHeld hK K
      have hHeld := hHeldN
      clear hHeldN
      try simp only [Act.put, List.setIfInBounds_toArray, List.set_cons_zero, List.set_cons_succ]
      refine held_ready (i := 11) rfl (by kernel_rfl) (fun K hK => ?_)
      rw [if_pos (by rfl)]
      refine wp_append_t (.tmp 15) (.tmp 25) rfl w1.heap.size w1 _ L rfl O1.out hB1.out hB1.out.size _ [d] rfl t1.out (by rw [ll]; simp; omega) ?_
      intro v2 w2 O2 B2 G2 H2
      rw [← sn.out] at O2
      refine hK.out _ _ (⟨keyX.out _ B2.out, keyY.out _ B2.out⟩) (fun hHeldN => ?_)
      clear hHeld hK K
      have hHeld := hHeldN
      clear hHeldN
      try simp only [Act.put, List.setIfInBounds_toArray, List.set_cons_zero, List.set_cons_succ]
      refine held_take (i := 12) (v := ?_) rfl (by kernel_rfl) (by kernel_rfl) (by kernel_rfl) (fun _ _ _ h => h) (Or.inl ⟨by rfl, ?_⟩) (by assumption) ?_
      rotate_left
      · intro w hSw; (try dsimp only at hSw); go_simp; try with_reducible rfl
      try simp only [Act.put, List.setIfInBounds_toArray, List.set_cons_zero, List.set_cons_succ]
      refine wpAnyH_done (by kernel_rfl) ?_ _
      clear hHeld
      go_wp2_with fail
      go_roundw
      case rel => exact ⟨k + 1, by omega, by go_num, O2.out, B2.out⟩
      case measure => simp [intOf]; omega
    · obtain rfl : k = 8 := by omega
      replace hO := Lib.hid hO
      replace hB := Lib.hid hB
      go_wp2_with fail
      go_ret
      exact ⟨_, rfl, hO.out.weaken B1.out.size, B1.out.trans (hB.out.mono B1.out.size)⟩
end Go.Proofs.Ytecmagenlbnchaa
namespace Go.Proofs.Ytecmagenlbnchaa
set_option maxRecDepth 100000
open Go.RowKit

/-- A slice does not lie in block g. -/
def NotIn (v : Value) (g : Nat) : Prop := ∀ ad n c, v = .slice (some ad) n c → ad.block ≠ g
theorem NotIn.ofOwn {w : World} {base g : Nat} {e : TypeId} {v : Value} {xs : List Value} (h : Own w base e v xs) (hg : g < base) : NotIn v g := fun ad n c e => by
  have h1 := (h.lt ad.block (by rw [e]; rfl)).1
  omega
theorem NotIn.typed {w : World} {base g : Nat} {v : Value} {xs : List Value} {cur : Array Value} {fr : Nat × Nat} (h : Own w base 5 v xs) (hg : w.heap[g]? = some (.cells cur 25 fr)) : NotIn v g := fun ad n c e q => by
  obtain ⟨cc, hc⟩ := own_typed h (k := ad.block) (by rw [e]; rfl)
  rw [q, hg] at hc
  simp at hc
theorem block_add (ad : Addr) (k : Nat) : (ad.add k).block = ad.block := by
  unfold Addr.add
  split <;> rfl
theorem NotIn.cut {ao : Option Addr} {n cap lo n' c' g : Nat} (h : NotIn (.slice ao n cap) g) : NotIn (.slice (cutA ao cap lo) n' c') g := fun ad n2 c2 e => by
  injection e with e1
  unfold cutA at e1
  split at e1
  · exact h ad n cap (by rw [e1])
  · cases ao with
    | none => simp at e1
    | some a0 =>
      simp only [Option.map_some, Option.some.injEq] at e1
      rw [← e1, block_add]
      exact h a0 n cap rfl
theorem TextAt.aside {w w' : World} {v : Value} {t : List Nat} {g : Nat} (h : TextAt w v t) (hn : NotIn v g) (hs : ∀ k, k ≠ g → w'.heap[k]? = w.heap[k]?) : TextAt w' v t := by
  obtain ⟨ao, cap, rfl, h1, h2, h3⟩ := h.ex
  refine ⟨ao, cap, rfl, h1, h2, fun i hi => ?_⟩
  obtain ⟨b, ob, oo, e, hc⟩ := h3 i hi
  exact ⟨b, ob, oo, e, (World.cell?_of_block (w := w) (hs ob (hn ⟨ob, oo, none⟩ _ _ (by rw [e])))).trans hc⟩
theorem Own.setV {w : World} {base g n c j : Nat} {e : TypeId} {xs : List Value} {u : Value} (h : Own w base e (.slice (some ⟨g, 0, none⟩) n c) xs) (hn : xs.length = n) : Own (w.setCell ⟨g, j, none⟩ u) base e (.slice (some ⟨g, 0, none⟩) n c) (xs.set j u) := by
  have h2 : w.ownsRow base e 1 (.slice (some ⟨g, 0, none⟩) n c) n xs := by have := h; unfold Own at this; rw [hn] at this; exact this
  have h3 := (h2.stored j u).1
  unfold Own
  rw [List.length_set, hn]
  exact h3

structure WrapR (w wr : World) (g o n cq c : Nat) (va : Value) (V S : Nat → Nat) : Prop where
  row : ∃ vs : List Value, Own wr 0 25 (.slice (some ⟨g, 0, none⟩) (o + n) cq) vs ∧ vs.length = o + n ∧ ∀ i u, i < n → vs[o + i]? = some u → TextAt wr u (wordL S (i + 1)) ∧ NotIn u g
  a : TextAt wr va (bytesOf S 8) ∧ NotIn va g
  low : Below w.heap.size w wr
  far : w.heap.size ≤ g
  ref : ∃ wq : World, wq.heap.size ≤ g ∧ Below wq.heap.size wq wr ∧ RefAt wq c V
theorem WrapR.lt {w wr : World} {g o n cq c : Nat} {va : Value} {V S : Nat → Nat} (h : WrapR w wr g o n cq c va V S) : g < wr.heap.size := by
  obtain ⟨vs, h1, _⟩ := h.row
  exact (h1.lt g rfl).2
theorem WrapR.refAt {w wr : World} {g o n cq c : Nat} {va : Value} {V S : Nat → Nat} (h : WrapR w wr g o n cq c va V S) : RefAt wr c V := by
  obtain ⟨wq, h1, h2, h3⟩ := h.ref
  exact h3.below h2
theorem WrapR.below {w wr w' : World} {g o n cq c : Nat} {va : Value} {V S : Nat → Nat} (h : WrapR w wr g o n cq c va V S) (hB : Below wr.heap.size wr w') : WrapR w w' g o n cq c va V S := by
  obtain ⟨vs, h1, h2, h3⟩ := h.row
  obtain ⟨wq, q1, q2, q3⟩ := h.ref
  exact ⟨⟨vs, h1.below hB, h2, fun i u hi e => ⟨(h3 i u hi e).1.below hB, (h3 i u hi e).2⟩⟩, ⟨h.a.1.below hB, h.a.2⟩, h.low.trans (hB.mono h.low.size), h.far, wq, q1, q2.trans (hB.mono q2.size), q3⟩
/-- The row's cells. -/
theorem WrapR.cell {w wr : World} {g o n cq c : Nat} {va : Value} {V S : Nat → Nat} (h : WrapR w wr g o n cq c va V S) {i : Nat} (hi : i < n) : ∃ u, wr.cell? ⟨g, o + i, none⟩ = some u ∧ wr.frozen? ⟨g, o + i, none⟩ = false ∧ TextAt wr u (wordL S (i + 1)) := by
  obtain ⟨vs, h1, h2, h3⟩ := h.row
  obtain ⟨ao, cap, e, _, _, _, _, c5⟩ := h1.form
  have ev : vs[o + i]? = some (vs[o + i]'(by omega)) := List.getElem?_eq_getElem _
  obtain ⟨g', e2, hc, hf⟩ := c5 (o + i) _ ev
  injection e with e1
  rw [e2] at e1
  obtain rfl : g = g' := by injection e1 with e1; injection e1
  exact ⟨_, hc, hf, (h3 i _ hi ev).1⟩
theorem WrapR.texts {w wr : World} {g o n cq c : Nat} {va : Value} {V S : Nat → Nat} (h : WrapR w wr g o n cq c va V S) : TextsAt wr (some ⟨g, o, none⟩) ((List.range n).map fun i => wordL S (i + 1)) := fun i hi => by
  have hi2 : i < n := by simpa using hi
  obtain ⟨u, hc, _, ht⟩ := h.cell hi2
  obtain ⟨ai, ci, rfl, d1, d2, d3⟩ := ht.ex
  have eg : ((List.range n).map fun i => wordL S (i + 1)).getD i [] = wordL S (i + 1) := by simp [List.getD, hi2]
  rw [eg]
  exact ⟨g, o, rfl, ai, ci, hc, d1, d3, d2⟩
theorem WrapR.text1 {w wr : World} {g o n cq c : Nat} {va : Value} {V S : Nat → Nat} (h : WrapR w wr g o n cq c va V S) {i : Nat} (hi : i < n) : TextsAt wr (some ⟨g, o + i, none⟩) [wordL S (i + 1)] := fun k hk => by
  have hk0 : k = 0 := by simpa using hk
  subst hk0
  obtain ⟨u, hc, _, ht⟩ := h.cell hi
  obtain ⟨ai, ci, rfl, d1, d2, d3⟩ := ht.ex
  exact ⟨g, o + i, rfl, ai, ci, hc, d1, d3, d2⟩
/-- A word and the first eight bytes put. -/
theorem WrapR.put {w wr w3 : World} {g o n cq c : Nat} {va v2 u2 : Value} {V S y : Nat → Nat} {i : Nat} (h : WrapR w wr g o n cq c va V S) (hB : Below wr.heap.size wr w3) (hi : i < n)
    (ha : TextAt w3 v2 (bytesOf y 8)) (na : NotIn v2 g) (hu : TextAt w3 u2 (bytesOf (fun j => y (8 + j)) 8)) (nu : NotIn u2 g) :
    WrapR w (w3.setCell ⟨g, o + i, none⟩ u2) g o n cq c v2 V (wput S (i + 1) y) := by
  have hs : ∀ k, k ≠ g → (w3.setCell ⟨g, o + i, none⟩ u2).heap[k]? = w3.heap[k]? := fun k hk => heap_setCell_other _ _ _ _ hk
  obtain ⟨vs, h1, h2, h3⟩ := (h.below hB).row
  obtain ⟨wq, q1, q2, q3⟩ := (h.below hB).ref
  have ew : wordL (wput S (i + 1) y) (i + 1) = bytesOf (fun j => y (8 + j)) 8 := bytesOf_congr fun j hj => by
    unfold wput
    rw [if_neg (by omega), if_pos (by omega)]
    congr 1 <;> omega
  have e8 : bytesOf (wput S (i + 1) y) 8 = bytesOf y 8 := bytesOf_congr fun j hj => by unfold wput; rw [if_pos hj]
  refine ⟨⟨vs.set (o + i) u2, h1.setV h2, by rw [List.length_set, h2], fun k u hk e => ?_⟩, ⟨by rw [e8]; exact ha.aside na hs, na⟩, (h.below hB).low.setCell (p := ⟨g, o + i, none⟩) h.far _, h.far, wq, q1, q2.setCell (p := ⟨g, o + i, none⟩) q1 _, q3⟩
  by_cases hki : k = i
  · subst hki
    rw [List.getElem?_set_self (by omega)] at e
    cases e
    rw [ew]
    exact ⟨hu.aside nu hs, nu⟩
  · rw [List.getElem?_set_ne (by omega)] at e
    obtain ⟨t1, t2⟩ := h3 k u hk e
    have e3 : wordL (wput S (i + 1) y) (k + 1) = wordL S (k + 1) := bytesOf_congr fun j hj => by
      unfold wput
      rw [if_neg (by omega), if_neg (by omega)]
    rw [e3]
    exact ⟨t1.aside t2 hs, t2⟩
theorem join_blk (S : Nat → Nat) (i : Nat) : bytesOf S 8 ++ [wordL S i].flatten = tab (wblk S i) := by
  have a : bytesOf S 8 = bytesOf (wblk S i) 8 := bytesOf_congr fun j hj => by unfold wblk; rw [if_pos hj]
  have b : [wordL S i].flatten = bytesOf (fun j => wblk S i (8 + j)) 8 := by
    simp only [List.flatten_cons, List.flatten_nil, List.append_nil]
    refine bytesOf_congr fun j hj => ?_
    unfold wblk
    rw [if_neg (by omega)]
    congr 1; omega
  rw [a, b, ← bytesOf_add]
  rfl
theorem join_mix (S : Nat → Nat) (i M : Nat) : bytesOf (wmix S M) 8 ++ [wordL S i].flatten = tab (wmix (wblk S i) M) := by
  have a : bytesOf (wmix S M) 8 = bytesOf (wmix (wblk S i) M) 8 := bytesOf_congr fun j hj => by unfold wmix wblk; rw [if_pos hj, if_pos hj, if_pos hj]
  have b : [wordL S i].flatten = bytesOf (fun j => wmix (wblk S i) M (8 + j)) 8 := by
    simp only [List.flatten_cons, List.flatten_nil, List.append_nil]
    refine bytesOf_congr fun j hj => ?_
    unfold wmix wblk
    rw [if_neg (by omega), if_neg (by omega)]
    congr 1; omega
  rw [a, b, ← bytesOf_add]
  rfl
theorem words_flat (S : Nat → Nat) : ∀ n, ((List.range n).map fun i => wordL S (i + 1)).flatten = bytesOf (fun j => S (8 + j)) (8 * n)
  | 0 => rfl
  | n + 1 => by
    rw [List.range_succ, List.map_append, List.flatten_append, words_flat S n, show 8 * (n + 1) = 8 * n + 8 by omega, bytesOf_add]
    congr 1
    simp only [List.map_cons, List.map_nil, List.flatten_cons, List.flatten_nil, List.append_nil]
    refine bytesOf_congr fun j hj => ?_
    congr 1 <;> omega
theorem cut_lo (y : Nat → Nat) : (tab y).take 8 = bytesOf y 8 := by
  rw [show tab y = bytesOf y (8 + 8) from rfl, bytesOf_add, List.take_left' (length_bytesOf _ _)]
theorem cut_hi (y : Nat → Nat) : (tab y).drop 8 = bytesOf (fun j => y (8 + j)) 8 := by
  rw [show tab y = bytesOf y (8 + 8) from rfl, bytesOf_add, List.drop_left' (length_bytesOf _ _)]
end Go.Proofs.Ytecmagenlbnchaa
namespace Go.Proofs.Ytecmagenlbnchaa
set_option maxRecDepth 100000
open Go.RowKit

theorem wrap_idx2 {n k I M : Nat} (h : M = n * k + I) (hM : M < 4294967296) : wrap64 (wrap64 ((n : Int) * (k : Int)) + (I : Int)) = (M : Int) := by
  obtain ⟨N, eN⟩ : ∃ N, N = n * k := ⟨_, rfl⟩
  have e1 : ((n : Int) * (k : Int)) = (N : Int) := by rw [eN]; push_cast; rfl
  rw [← eN] at h
  have e2 : wrap64 (N : Int) = (N : Int) := IntWalk.wrap64_in _ (by omega)
  rw [e1, e2, IntWalk.wrap64_in _ (by omega)]
  omega
theorem mark_first (t : List Nat) : bytesOf (markF t) 8 = List.replicate 8 166 := by
  have h : bytesOf (markF t) 8 = bytesOf (fun _ => 166) 8 := bytesOf_congr fun j hj => by
    unfold markF
    rw [byt_append, if_pos (by simpa using hj)]
    have e : ∀ j, j < 8 → byt (List.replicate 8 166) j = 166 := by decide
    exact e j hj
  rw [h]; rfl
theorem mark_word (t : List Nat) (i : Nat) : wordL (markF t) (i + 1) = wordL (byt t) i := bytesOf_congr fun j hj => by
  unfold markF
  rw [byt_append, if_neg (by simp; omega)]
  congr 1
  simp; omega

set_option maxRecDepth 100000 in
theorem r7wrap_bad (w : World) (vk : Value) (ao : Option Addr) (m cap : Nat) (hm : m < 9223372036854775808) (hf : fitsB m 0 = false) :
    Calls Try.prog 49 #[vk, .slice ao m cap] w fun e w' => e = .returned (.tuple #[.slice none 0 0, .int .i64 3]) ∧ Below w.heap.size w w' := by
  have hq := of_decide_eq_false hf
  clear hf
  have hmod : ((m : Int)).tmod 8 = ((m % 8 : Nat) : Int) := by rw [Int.tmod_eq_emod_of_nonneg (by omega)]; omega
  by_cases h0 : m < 16
  · have d0 : decide ((m : Int) < 16) = true := decide_eq_true (by omega)
    go_enter Try.func49, Try.ntmps49
    go_wp2_with fail
    go_ret2
    exact ⟨rfl, Below.refl _ _⟩
  · have d0 : decide ((m : Int) < 16) = false := decide_eq_false (by omega)
    by_cases h1 : 128 < m
    · have d1 : decide ((m : Int) > 128) = true := decide_eq_true (by omega)
      go_enter Try.func49, Try.ntmps49
      go_wp2_with fail
      go_ret2
      exact ⟨rfl, Below.refl _ _⟩
    · have d1 : decide ((m : Int) > 128) = false := decide_eq_false (by omega)
      have d2 : (((m % 8 : Nat) : Int) == 0) = false := beq_eq_false_iff_ne.2 (by omega)
      have d3 : (((m % 8 : Nat) : Int) != 0) = true := by rw [bne, d2]; rfl
      generalize m % 8 = r at *
      go_enter Try.func49, Try.ntmps49
      go_wp2_with fail
      go_ret2
      exact ⟨rfl, Below.refl _ _⟩

set_option maxHeartbeats 4000000 in
set_option maxRecDepth 100000 in
theorem r7wrap_ok (w : World) (vk : Value) (key : List Nat) (hk : key.length = 32) (htk : TextAt w vk key) (ao : Option Addr) (t : List Nat) (m cap : Nat) (em : t.length = m) (ht : TextAt w (.slice ao m cap) t) (hf : fitsB m 0 = true) :
    Calls Try.prog 49 #[vk, .slice ao m cap] w fun e w' => ∃ v, e = .returned (.tuple #[v, .int .i64 0]) ∧ TextAt w' v (wrapL (byt (wordsOf (byt key))) t) ∧ Below w.heap.size w w' := by
  obtain ⟨hm8, hm16, hm128⟩ := of_decide_eq_true hf
  simp only [Nat.add_zero] at hm16 hm128
  obtain ⟨n, en⟩ : ∃ n, m = 8 * n := ⟨m / 8, by omega⟩
  have hmod : ((m : Int)).tmod 8 = 0 := by rw [Int.tmod_eq_emod_of_nonneg (by omega)]; omega
  have d0 : decide ((m : Int) < 16) = false := decide_eq_false (by omega)
  have d1 : decide ((m : Int) > 128) = false := decide_eq_false (by omega)
  have hs := byt_lt htk.small
  have cn := rnew_any w vk key hk htk
  have hV : ∀ i, byt (wordsOf (byt key)) i < 256 := words_lt hs 60
  generalize byt (wordsOf (byt key)) = V at *
  have st := ht.small
  have hn2 : 2 ≤ n := by omega
  have hn16 : n ≤ 16 := by omega
  replace hk := Lib.hid hk
  replace htk := Lib.hid htk
  replace hs := Lib.hid hs
  replace em := Lib.hid em
  replace ht := Lib.hid ht
  replace hf := Lib.hid hf
  replace hm8 := Lib.hid hm8
  replace hm16 := Lib.hid hm16
  replace hm128 := Lib.hid hm128
  replace en := Lib.hid en
  replace cn := Lib.hid cn
  replace hV := Lib.hid hV
  replace st := Lib.hid st
  replace hn2 := Lib.hid hn2
  replace hn16 := Lib.hid hn16
  go_enter Try.func49, Try.ntmps49
  go_wp2_with fail
  refine cn.out.mono ?_
  rintro e w1 ⟨c, aw, cw, vb, vk2, rfl, rC, B1⟩
  have R1 : RefAt w1 c V := ⟨_, _, _, _, rC⟩
  have cw2 := r7words_any w1 _ t m n em.out en.out (by have := hm128.out; omega) (ht.out.below B1)
  clear cn rC
  replace R1 := Lib.hid R1
  replace B1 := Lib.hid B1
  replace cw2 := Lib.hid cw2
  go_wp2_with fail
  refine cw2.out.mono ?_
  rintro e w2 ⟨vr, vs, rfl, oR, lR, eR, B2⟩
  obtain ⟨ar, cq, rfl, q1, _, _, qb, qc⟩ := oR.form
  have ev0 : vs[0]? = some (vs[0]'(by have := hn2.out; omega)) := List.getElem?_eq_getElem _
  obtain ⟨g, rfl, _, _⟩ := qc 0 _ ev0
  have hgR := (oR.lt g rfl)
  rw [lR] at oR q1 ⊢
  have st0 : WrapR w (w2.alloc (.cells (u8s (List.replicate 8 166)) 5)) g 0 n cq c (.slice (some ⟨w2.heap.size, 0, none⟩) 8 8) V (wrapTo V (markF t) n (n * 0)) := by
    have Ba : Below w2.heap.size w2 (w2.alloc (.cells (u8s (List.replicate 8 166)) 5)) := (Below.refl _ _).alloc (Nat.le_refl _) _
    obtain ⟨cur, hcur⟩ := own_typed oR (k := g) rfl
    have tl := litL (wx := w2) (l := List.replicate 8 166) (fun x hx => by rw [List.eq_of_mem_replicate hx]; decide) (by decide)
    refine ⟨⟨vs, by rw [Nat.zero_add]; exact (oR.weaken (Nat.zero_le _)).below Ba, by rw [Nat.zero_add]; exact lR, fun i u hi e => ?_⟩, ⟨?_, fun ad n' c' e => ?_⟩, ?_, ?_, w1, ?_, ?_, R1.out⟩
    · rw [Nat.zero_add] at e
      rw [show wrapTo V (markF t) n (n * 0) = markF t from rfl, mark_word]
      have h := eR i u e
      exact ⟨(h.below Ba).text (bytesOf_lt fun j _ => byt_lt st.out _), NotIn.typed h hcur⟩
    · rw [show wrapTo V (markF t) n (n * 0) = markF t from rfl, mark_first]
      exact tl
    · injection e with e1
      injection e1 with e1
      rw [← e1]
      have := hgR.2
      show w2.heap.size ≠ g
      omega
    · exact (B1.out.trans (B2.mono B1.out.size)).trans (Ba.mono (Nat.le_trans B1.out.size B2.size))
    · exact Nat.le_trans B1.out.size hgR.1
    · exact hgR.1
    · exact B2.trans (Ba.mono B2.size)
  clear cw2 oR eR B2 B1 R1 ev0 qb qc
  replace st0 := Lib.hid st0
  replace hgR := Lib.hid hgR
  replace q1 := Lib.hid q1
  go_wp2_with fail
  go_loopw [8, 9] (fun va tv wr => ∃ k : Nat, k ≤ 6 ∧ tv = .int .i64 k ∧ WrapR w wr g 0 n cq c va V (wrapTo V (markF t) n (n * k))) (fun _ tv _ => 6 - (intOf tv).toNat)
  case atStart => exact ⟨0, Nat.zero_le _, rfl, st0.out⟩
  case round =>
    clear st0
    obtain ⟨k, hk6, rfl, st1⟩ := hrel
    obtain ⟨wq, rfl⟩ : ∃ wq : World, wq = wr := ⟨_, rfl⟩
    by_cases hlt : k < 6
    · have d6 : decide ((k : Int) < 6) = true := decide_eq_true (by omega)
      replace st1 := Lib.hid st1
      go_wp2_with fail
      go_loopw [8, 10] (fun va iv wr => ∃ p I : Nat, I = p + 1 ∧ p ≤ n ∧ iv = .int .i64 I ∧ WrapR w wr g 0 n cq c va V (wrapTo V (markF t) n (n * k + p))) (fun _ iv _ => n + 1 - (intOf iv).toNat)
      case atStart => exact ⟨0, 1, rfl, Nat.zero_le _, rfl, st1.out⟩
      case round =>
        clear st1
        obtain ⟨p, I, eI, hp, rfl, st2⟩ := hrel
        by_cases hpn : p < n
        · have hn9 := hn16.out
          have dl : decide ((I : Int) ≤ (n : Int)) = true := decide_eq_true (by omega)
          have dl2 : decide (I ≤ n) = true := decide_eq_true (by omega)
          have f1 : (I : Int) - 1 = (p : Int) := by omega
          have f2 : (p : Int) < (n : Int) := by omega
          have f5 : wrap64 (p : Int) = (p : Int) := IntWalk.wrap64_in _ (by omega)
          have f3 : 0 < I := by omega
          have f6 : I < 20 := by omega
          obtain ⟨M, eM⟩ : ∃ M, M = n * k + I := ⟨_, rfl⟩
          have hM : M < 4294967296 := by
            have h1 : n * k ≤ 16 * 5 := Nat.mul_le_mul (by omega) (by omega)
            omega
          have es : wrapTo V (markF t) n (n * k + p + 1) = wstep V (wrapTo V (markF t) n (n * k + p)) (p + 1) M := by
            rw [wrapTo_succ, Nat.mul_add_mod, Nat.mod_eq_of_lt hpn, eM, eI, Nat.add_assoc]
          have bS : ∀ j, wrapTo V (markF t) n (n * k + p) j < 256 := wrapTo_lt hV.out (fun j => by
            unfold markF
            exact byt_lt (fun x hx => by
              rcases List.mem_append.1 hx with hx | hx
              · rw [List.eq_of_mem_replicate hx]; decide
              · exact st.out x hx) j) n _
          generalize wrapTo V (markF t) n (n * k + p) = S at *
          have hq1 := q1.out
          have hcut := run_cut_lh (P := Try.prog) (T := 44) (e := 25) Try.underlying44 (by kernel_rfl) (some ⟨g, 0, none⟩) n cq p I (by omega) (by omega) (p : Int) (I : Int) rfl rfl
          rw [cutA_some (by omega), show I - p = 1 by omega, Nat.zero_add] at hcut
          have bW := wblk_lt bS (p + 1)
          have tx := st2.text1 hpn
          rw [Nat.zero_add] at tx
          have cj := r7join_any _ _ _ st2.a.1 (some ⟨g, p, none⟩) 1 (cq - p) _ rfl tx (by simp [length_bytesOf, length_wordL]) (by decide)
          rw [join_blk] at cj
          clear tx hq1
          replace st2 := Lib.hid st2
          replace es := Lib.hid es
          replace bS := Lib.hid bS
          replace bW := Lib.hid bW
          replace cj := Lib.hid cj
          replace eM := Lib.hid eM
          replace hM := Lib.hid hM
          replace eI := Lib.hid eI
          replace hn9 := Lib.hid hn9
          go_wp2_with fail
          refine cj.out.mono ?_
          rintro e w3 ⟨v3, rfl, o3, B3⟩
          have ct := rturn_at (st2.out.below B3).refAt hV.out v3 _ bW.out (o3.text (tabs_lt bW.out))
          clear cj o3
          replace B3 := Lib.hid B3
          replace ct := Lib.hid ct
          go_wp2_with fail
          refine ct.out.mono ?_
          rintro e w4 ⟨v4, rfl, o4, B4⟩
          have B34 := B3.out.trans (B4.mono B3.out.size)
          have bT := bytes_turn hV.out bW.out
          have nx : NotIn v4 g := NotIn.ofOwn o4 (Nat.lt_of_lt_of_le st2.out.lt B3.out.size)
          have t4 := o4.text (tabs_lt bT)
          have eZ : wput S (p + 1) (wmix (turnF V (wblk S (p + 1))) M) = wstep V S (p + 1) M := (wstep_def V S (p + 1) M).symm
          generalize turnF V (wblk S (p + 1)) = x at *
          obtain ⟨ax, cx, rfl, hcx, _⟩ := t4.ex
          have tlo := TextAt.cutHi (hi := 8) t4 (by rw [length_tab]; decide)
          have thi := TextAt.cutLo (lo := 8) t4 (by rw [length_tab]; decide)
          rw [cut_lo] at tlo
          rw [cut_hi] at thi
          rw [length_tab] at nx hcx t4 thi ⊢
          have c1 := run_cut_h (P := Try.prog) (T := 25) (e := 5) Try.underlying25 infoU8s ax 16 cx 8 (by omega) 8 rfl
          have c2 := run_cut_l (P := Try.prog) (T := 25) (e := 5) Try.underlying25 infoU8s ax 16 cx 8 (by decide) 8 rfl
          have cm := r7mixed_any w4 (.slice ax 8 cx) x (fun i hi => bT i (by omega)) tlo M hM.out
          clear ct o4 B4 B3 tlo
          replace B34 := Lib.hid B34
          replace bT := Lib.hid bT
          replace nx := Lib.hid nx
          replace t4 := Lib.hid t4
          replace thi := Lib.hid thi
          replace eZ := Lib.hid eZ
          replace cm := Lib.hid cm
          replace hcx := Lib.hid hcx
          go_wp2_with fail
          rw [wrap_idx2 (n := n) (k := k) (I := I) (M := M) eM.out hM.out]
          refine cm.out.mono ?_
          rintro e w5 ⟨v5, rfl, o5, B5⟩
          have B35 := B34.out.trans (B5.mono B34.out.size)
          have n5 : NotIn v5 g := NotIn.ofOwn o5 (Nat.lt_of_lt_of_le st2.out.lt B34.out.size)
          have bX := wmix_lt bT.out M
          have t5 := o5.text (bytesOf_lt fun i hi => bX i (by omega))
          have th5 := thi.out.below B5
          have eh : bytesOf (fun j => x (8 + j)) 8 = bytesOf (fun j => wmix x M (8 + j)) 8 := bytesOf_congr fun j hj => by unfold wmix; rw [if_neg (by omega)]
          rw [eh] at th5
          have st6 := st2.out.put B35 hpn t5 n5 th5 nx.out.cut
          obtain ⟨u0, cP, fP, _⟩ := (st2.out.below B35).cell hpn
          rw [eZ.out, ← es.out] at st6
          rw [Nat.zero_add] at cP fP st6
          clear cm o5 B5 thi t4 th5 t5 n5
          replace st6 := Lib.hid st6
          replace B35 := Lib.hid B35
          replace bX := Lib.hid bX
          go_wp2_with fail
          go_roundw
          case rel => exact ⟨p + 1, I + 1, by have := eI.out; omega, by omega, by go_num, by rw [← Nat.add_assoc]; exact st6.out⟩
          case measure => simp [intOf]; have := eI.out; omega
        · obtain rfl : p = n := by omega
          have dl : decide ((I : Int) ≤ (p : Int)) = false := decide_eq_false (by omega)
          have dl2 : decide (I ≤ p) = false := decide_eq_false (by omega)
          replace st2 := Lib.hid st2
          replace eI := Lib.hid eI
          go_wp2_with fail
          go_roundw
          case rel => exact ⟨k + 1, by omega, by go_num, by rw [Nat.mul_succ]; exact st2.out⟩
          case measure => simp [intOf]; omega
    · obtain rfl : k = 6 := by omega
      simp only [show ((6 : Nat) : Int) = 6 from rfl]
      have tx := st1.texts
      have hn9 := hn16.out
      have cj := r7join_any _ _ _ st1.a.1 (some ⟨g, 0, none⟩) n cq _ (by simp) tx (by rw [words_flat]; simp [length_bytesOf]; omega) (by omega)
      have el : wrapL V t = bytesOf (wrapTo V (markF t) n (n * 6)) (8 + 8 * n) := by
        unfold wrapL
        have h8 : t.length / 8 = n := by have := em.out; have := en.out; omega
        rw [h8, Nat.mul_comm 6 n]
        congr 1; have := em.out; have := en.out; omega
      rw [words_flat, ← bytesOf_add, ← el] at cj
      have low := st1.low
      clear tx
      replace st1 := Lib.hid st1
      replace cj := Lib.hid cj
      replace el := Lib.hid el
      replace low := Lib.hid low
      replace hn9 := Lib.hid hn9
      go_wp2_with fail
      refine cj.out.mono ?_
      rintro e w3 ⟨v3, rfl, o3, B3⟩
      have lowF := low.out.trans (B3.mono low.out.size)
      have bS : ∀ j, wrapTo V (markF t) n (n * 6) j < 256 := wrapTo_lt hV.out (fun j => by
        unfold markF
        exact byt_lt (fun x hx => by
          rcases List.mem_append.1 hx with hx | hx
          · rw [List.eq_of_mem_replicate hx]; decide
          · exact st.out x hx) j) n _
      have tF := o3.text (by rw [el.out]; exact bytesOf_lt fun j _ => bS j)
      clear bS
      replace o3 := Lib.hid o3
      replace B3 := Lib.hid B3
      replace lowF := Lib.hid lowF
      replace tF := Lib.hid tF
      go_wp2_with fail
      go_ret2
      exact ⟨_, rfl, tF.out, lowF.out⟩
end Go.Proofs.Ytecmagenlbnchaa
namespace Go.Proofs.Ytecmagenlbnchaa
set_option maxRecDepth 100000
open Go.RowKit

theorem unsays_no {w w' : World} {R R0 : List Nat} (e : R0 = R) (h : R.take 8 ≠ List.replicate 8 166) (B : Below w.heap.size w w') : UnSays R0 w (.returned (.tuple #[.slice none 0 0, .int .i64 20])) w' := by
  subst e
  exact ⟨⟨_, by rw [if_neg h], fun k => absurd k h, fun _ => rfl⟩, B⟩
theorem unsays_yes {w w' : World} {R R0 : List Nat} {v : Value} (e : R0 = R) (h : R.take 8 = List.replicate 8 166) (tF : TextAt w' v (R.drop 8)) (B : Below w.heap.size w w') : UnSays R0 w (.returned (.tuple #[v, .int .i64 0])) w' := by
  subst e
  exact ⟨⟨_, by rw [if_pos h], fun _ => tF, fun k => absurd h k⟩, B⟩
set_option maxRecDepth 100000 in
theorem r7unwrap_bad (w : World) (vk : Value) (ao : Option Addr) (m cap : Nat) (hm : m < 9223372036854775808) (hf : fitsB m 1 = false) :
    Calls Try.prog 46 #[vk, .slice ao m cap] w fun e w' => e = .returned (.tuple #[.slice none 0 0, .int .i64 3]) ∧ Below w.heap.size w w' := by
  have hq := of_decide_eq_false hf
  clear hf
  have hmod : ((m : Int)).tmod 8 = ((m % 8 : Nat) : Int) := by rw [Int.tmod_eq_emod_of_nonneg (by omega)]; omega
  by_cases h0 : m < 24
  · have d0 : decide ((m : Int) < 24) = true := decide_eq_true (by omega)
    go_enter Try.func46, Try.ntmps46
    go_wp2_with fail
    go_ret2
    exact ⟨rfl, Below.refl _ _⟩
  · have d0 : decide ((m : Int) < 24) = false := decide_eq_false (by omega)
    by_cases h1 : 136 < m
    · have d1 : decide ((m : Int) > 136) = true := decide_eq_true (by omega)
      go_enter Try.func46, Try.ntmps46
      go_wp2_with fail
      go_ret2
      exact ⟨rfl, Below.refl _ _⟩
    · have d1 : decide ((m : Int) > 136) = false := decide_eq_false (by omega)
      have d2 : (((m % 8 : Nat) : Int) == 0) = false := beq_eq_false_iff_ne.2 (by omega)
      have d3 : (((m % 8 : Nat) : Int) != 0) = true := by rw [bne, d2]; rfl
      generalize m % 8 = r at *
      go_enter Try.func46, Try.ntmps46
      go_wp2_with fail
      go_ret2
      exact ⟨rfl, Below.refl _ _⟩

set_option maxHeartbeats 4000000 in
set_option maxRecDepth 100000 in
theorem r7unwrap_ok (w : World) (vk : Value) (key : List Nat) (hk : key.length = 32) (htk : TextAt w vk key) (ao : Option Addr) (t : List Nat) (m cap : Nat) (em : t.length = m) (ht : TextAt w (.slice ao m cap) t) (hf : fitsB m 1 = true) :
    Calls Try.prog 46 #[vk, .slice ao m cap] w (UnSays (unL (byt (wordsOf (byt key))) t) w) := by
  obtain ⟨hm8, hm16, hm128⟩ := of_decide_eq_true hf
  obtain ⟨n, en⟩ : ∃ n, m = 8 * (n + 1) := ⟨m / 8 - 1, by omega⟩
  have hmod : ((m : Int)).tmod 8 = 0 := by rw [Int.tmod_eq_emod_of_nonneg (by omega)]; omega
  have d0 : decide ((m : Int) < 24) = false := decide_eq_false (by omega)
  have d1 : decide ((m : Int) > 136) = false := decide_eq_false (by omega)
  have hs := byt_lt htk.small
  have cn := rnew_any w vk key hk htk
  have hV : ∀ i, byt (wordsOf (byt key)) i < 256 := words_lt hs 60
  generalize byt (wordsOf (byt key)) = V at *
  have st := ht.small
  have hn2 : 2 ≤ n := by omega
  have hn16 : n ≤ 16 := by omega
  have eU : unL V t = bytesOf (unTo V (byt t) n (6 * n) (6 * n)) (8 + 8 * n) := by
    unfold unL
    have h8 : t.length / 8 - 1 = n := by omega
    rw [h8]
    congr 1; omega
  replace hk := Lib.hid hk
  replace htk := Lib.hid htk
  replace hs := Lib.hid hs
  replace em := Lib.hid em
  replace ht := Lib.hid ht
  replace hf := Lib.hid hf
  replace hm8 := Lib.hid hm8
  replace hm16 := Lib.hid hm16
  replace hm128 := Lib.hid hm128
  replace en := Lib.hid en
  replace cn := Lib.hid cn
  replace hV := Lib.hid hV
  replace st := Lib.hid st
  replace hn2 := Lib.hid hn2
  replace hn16 := Lib.hid hn16
  replace eU := Lib.hid eU
  go_enter Try.func46, Try.ntmps46
  go_wp2_with fail
  refine cn.out.mono ?_
  rintro e w1 ⟨c, aw, cw, vb, vk2, rfl, rC, B1⟩
  have R1 : RefAt w1 c V := ⟨_, _, _, _, rC⟩
  have cw2 := r7words_any w1 _ t m (n + 1) em.out en.out (by have := hm128.out; omega) (ht.out.below B1)
  clear cn rC
  replace R1 := Lib.hid R1
  replace B1 := Lib.hid B1
  replace cw2 := Lib.hid cw2
  go_wp2_with fail
  refine cw2.out.mono ?_
  rintro e w2 ⟨vr, vs, rfl, oR, lR, eR, B2⟩
  obtain ⟨ar, cq, rfl, q1, _, _, qb, qc⟩ := oR.form
  have ev0 : vs[0]? = some (vs[0]'(by omega)) := List.getElem?_eq_getElem _
  obtain ⟨g, rfl, c0, _⟩ := qc 0 _ ev0
  have hgR := (oR.lt g rfl)
  rw [lR] at oR q1 ⊢
  generalize vs[0]'(by omega) = u0 at ev0 c0
  have st0 : WrapR w w2 g 1 n cq c u0 V (unTo V (byt t) n (6 * n) (6 * n - n * 6)) := by
    obtain ⟨cur, hcur⟩ := own_typed oR (k := g) rfl
    have e0 : unTo V (byt t) n (6 * n) (6 * n - n * 6) = byt t := by rw [show 6 * n - n * 6 = 0 by omega]; rfl
    rw [e0]
    refine ⟨⟨vs, by rw [Nat.add_comm]; exact oR.weaken (Nat.zero_le _), by rw [Nat.add_comm]; exact lR, fun i u hi e => ?_⟩, ⟨?_, ?_⟩, ?_, ?_, w1, ?_, ?_, R1.out⟩
    · have h := eR _ u e
      rw [show 1 + i = i + 1 by omega] at h
      exact ⟨h.text (bytesOf_lt fun j _ => byt_lt st.out _), NotIn.typed h hcur⟩
    · have h := (eR 0 u0 ev0).text (bytesOf_lt fun j _ => byt_lt st.out _)
      have e2 : wordL (byt t) 0 = bytesOf (byt t) 8 := bytesOf_congr fun j _ => by congr 1; omega
      rw [e2] at h
      exact h
    · exact NotIn.typed (eR 0 u0 ev0) hcur
    · exact B1.out.trans (B2.mono B1.out.size)
    · exact Nat.le_trans B1.out.size hgR.1
    · exact hgR.1
    · exact B2
  have hc1 := run_cut_l (P := Try.prog) (T := 44) (e := 25) Try.underlying44 (by kernel_rfl) (some ⟨g, 0, none⟩) (n + 1) cq 1 (by omega) 1 rfl
  rw [cutA_some (by have := hn2.out; omega), show n + 1 - 1 = n by omega, Nat.zero_add] at hc1
  have hn0 : 0 < n + 1 := by omega
  obtain ⟨n1, en1⟩ : ∃ n1, n1 = n + 1 := ⟨_, rfl⟩
  rw [← en1] at hc1 hn0 q1 ⊢
  have c0' : w2.drew.cell? ⟨g, 0, none⟩ = some u0 := c0
  clear cw2 oR eR B2 B1 R1 ev0 qb qc lR
  replace st0 := Lib.hid st0
  replace hgR := Lib.hid hgR
  replace q1 := Lib.hid q1
  replace en1 := Lib.hid en1
  go_wp2_with fail
  refine wp_region_held_drew (S := (fun w' => w'.cell? ⟨g, 0, none⟩ = some u0)) (by kernel_rfl) (c0') (fun hHeld => ?_)
  refine held_take (i := 0) (v := ?_) rfl (by kernel_rfl) (by kernel_rfl) (by kernel_rfl) (fun _ _ _ h => h) (Or.inl ⟨by rfl, ?_⟩) (by assumption) ?_
  rotate_left
  · intro w hSw; (try dsimp only at hSw); go_simp; try with_reducible rfl
  try simp only [Act.put, List.setIfInBounds_toArray, List.set_cons_zero, List.set_cons_succ]
  refine held_take (i := 1) (v := ?_) rfl (by kernel_rfl) (by kernel_rfl) (by kernel_rfl) (fun _ _ _ h => h) (Or.inl ⟨by rfl, ?_⟩) (by assumption) ?_
  rotate_left
  · intro w hSw; (try dsimp only at hSw); go_simp; try with_reducible rfl
  try simp only [Act.put, List.setIfInBounds_toArray, List.set_cons_zero, List.set_cons_succ]
  refine held_take (i := 2) (v := ?_) rfl (by kernel_rfl) (by kernel_rfl) (by kernel_rfl) (fun _ _ _ h => h) (Or.inl ⟨by rfl, ?_⟩) (by assumption) ?_
  rotate_left
  · intro w hSw; (try dsimp only at hSw); go_simp; try with_reducible rfl
  try simp only [Act.put, List.setIfInBounds_toArray, List.set_cons_zero, List.set_cons_succ]
  refine held_take (i := 3) (v := ?_) rfl (by kernel_rfl) (by kernel_rfl) (by kernel_rfl) (fun _ _ _ h => h) (Or.inl ⟨by rfl, ?_⟩) (by assumption) ?_
  rotate_left
  · intro w hSw; (try dsimp only at hSw); go_simp; try with_reducible rfl
  try simp only [Act.put, List.setIfInBounds_toArray, List.set_cons_zero, List.set_cons_succ]
  refine held_take (i := 4) (v := ?_) rfl (by kernel_rfl) (by kernel_rfl) (by kernel_rfl) (fun _ _ _ h => h) (Or.inl ⟨by rfl, ?_⟩) (by assumption) ?_
  rotate_left
  · intro w hSw; (try dsimp only at hSw); go_simp; try with_reducible rfl
  try simp only [Act.put, List.setIfInBounds_toArray, List.set_cons_zero, List.set_cons_succ]
  refine held_take (i := 5) (v := ?_) rfl (by kernel_rfl) (by kernel_rfl) (by kernel_rfl) (fun _ _ _ h => h) (Or.inl ⟨by rfl, ?_⟩) (by assumption) ?_
  rotate_left
  · intro w hSw; (try dsimp only at hSw); go_simp; try with_reducible rfl
  try simp only [Act.put, List.setIfInBounds_toArray, List.set_cons_zero, List.set_cons_succ]
  refine held_take (i := 6) (v := ?_) rfl (by kernel_rfl) (by kernel_rfl) (by kernel_rfl) (fun _ _ _ h => h) (Or.inl ⟨by rfl, ?_⟩) (by assumption) ?_
  rotate_left
  · intro w hSw; (try dsimp only at hSw); go_simp; try with_reducible rfl
  try simp only [Act.put, List.setIfInBounds_toArray, List.set_cons_zero, List.set_cons_succ]
  refine wpAnyH_done (by kernel_rfl) ?_ _
  clear hHeld
  clear c0 c0' hc1 hn0
  have st0 := Lib.hid (st0.out.below (Below.refl _ _).drew)
  go_wp2_with fail
  go_loopw [8, 10] (fun va tv wr => ∃ t1 : Nat, t1 ≤ 6 ∧ tv = .int .i64 ((t1 : Int) - 1) ∧ WrapR w wr g 1 n cq c va V (unTo V (byt t) n (6 * n) (6 * n - n * t1))) (fun _ tv _ => (intOf tv + 1).toNat)
  case atStart => exact ⟨6, Nat.le_refl _, rfl, st0.out⟩
  case round =>
    clear st0
    obtain ⟨t1, ht6, rfl, st1⟩ := hrel
    obtain ⟨wq, rfl⟩ : ∃ wq : World, wq = wr := ⟨_, rfl⟩
    by_cases hlt : 0 < t1
    · obtain ⟨t2, rfl⟩ : ∃ t2, t1 = t2 + 1 := ⟨t1 - 1, by omega⟩
      have et : (((t2 + 1 : Nat) : Int) - 1) = (t2 : Int) := by omega
      rw [et]
      clear et hlt
      have d6 : decide ((t2 : Int) ≥ 0) = true := decide_eq_true (by omega)
      replace st1 := Lib.hid st1
      go_wp2_with fail
      go_loopw [8, 11] (fun va iv wr => ∃ I : Nat, I ≤ n ∧ iv = .int .i64 I ∧ WrapR w wr g 1 n cq c va V (unTo V (byt t) n (6 * n) (6 * n - (n * t2 + I)))) (fun _ iv _ => (intOf iv).toNat)
      case atStart => exact ⟨n, Nat.le_refl _, rfl, by have := st1.out; rwa [Nat.mul_succ] at this⟩
      case round =>
        clear st1
        obtain ⟨I, hI, rfl, st2⟩ := hrel
        by_cases hpn : 1 ≤ I
        · have hn9 := hn16.out
          obtain ⟨p, ep⟩ : ∃ p, I = p + 1 := ⟨I - 1, by omega⟩
          have hpn2 : p < n := by omega
          have dl : decide ((I : Int) ≥ 1) = true := decide_eq_true (by omega)
          have f1 : (I : Int) - 1 = (p : Int) := by omega
          have f1' : IntKind.i64.wrap ((I : Int) - 1) = (p : Int) := by rw [IntWalk.i64_in _ (by omega)]; omega
          have f5 : IntKind.i64.wrap (p : Int) = (p : Int) := IntWalk.i64_in _ (by omega)
          have f5' : wrap64 (p : Int) = (p : Int) := IntWalk.wrap64_in _ (by omega)
          have f6 : I < 20 := by omega
          have f2 : (p : Int) < (n : Int) := by omega
          obtain ⟨N, eN⟩ : ∃ N, N = n * t2 := ⟨_, rfl⟩
          have hN : N ≤ 16 * 6 := by rw [eN]; exact Nat.mul_le_mul (by omega) (by omega)
          obtain ⟨M, eM⟩ : ∃ M, M = N + I := ⟨_, rfl⟩
          have eMM : M = n * t2 + I := by rw [eM, eN]
          obtain ⟨hM, hM6⟩ := unw_left eMM (by omega) hn9 hI
          obtain ⟨k, ek⟩ : ∃ k, 6 * n = k + M := ⟨6 * n - M, by omega⟩
          have es := un_step (V := V) (S0 := byt t) eMM hpn hI ek
          have e2 : 6 * n - (n * t2 + I) = k := by omega
          have e3 : 6 * n - (n * t2 + p) = k + 1 := by omega
          rw [e2] at st2
          have m1 : IntKind.i64.wrap ((n : Int) * (t2 : Int)) = (N : Int) := by
            rw [show ((n : Int) * (t2 : Int)) = (N : Int) by rw [eN]; push_cast; rfl]; exact IntWalk.i64_in _ (by omega)
          have m2 : IntKind.i64.wrap ((N : Int) + (I : Int)) = (M : Int) := by rw [IntWalk.i64_in _ (by omega)]; omega
          have bS : ∀ j, unTo V (byt t) n (6 * n) k j < 256 := unTo_lt hV.out (byt_lt st.out) n _ _
          generalize unTo V (byt t) n (6 * n) k = S at *
          have hq1 := q1.out
          have hq2 := en1.out
          have hcut := run_cut_lh (P := Try.prog) (T := 44) (e := 25) Try.underlying44 (by kernel_rfl) (some ⟨g, 1, none⟩) n (cq - 1) p I (by omega) (by omega) (p : Int) (I : Int) rfl rfl
          rw [cutA_some (by omega), show I - p = 1 by omega] at hcut
          have bW := wmix_lt (wblk_lt bS (p + 1)) M
          have cm := r7mixed_any wr.drew _ S (fun i _ => bS i) (st2.a.1.below (Below.refl _ _).drew) M hM
          have st2d := st2.below (w' := wr.drew) (Below.refl _ _).drew
          clear hq1 hq2
          replace st2 := Lib.hid st2
          replace st2d := Lib.hid st2d
          replace es := Lib.hid es
          replace bS := Lib.hid bS
          replace bW := Lib.hid bW
          replace cm := Lib.hid cm
          replace eM := Lib.hid eM
          replace eMM := Lib.hid eMM
          replace eN := Lib.hid eN
          replace hM := Lib.hid hM
          replace hM6 := Lib.hid hM6
          replace hN := Lib.hid hN
          replace ep := Lib.hid ep
          replace hn9 := Lib.hid hn9
          replace e2 := Lib.hid e2
          replace e3 := Lib.hid e3
          replace ek := Lib.hid ek
          go_wp2_with fail
          refine wp_region_held_drew (S := (fun _ => True)) (by kernel_rfl) (trivial) (fun hHeld => ?_)
          refine held_take (i := 0) (v := ?_) rfl (by kernel_rfl) (by kernel_rfl) (by kernel_rfl) (fun _ _ _ h => h) (Or.inl ⟨by rfl, ?_⟩) (by assumption) ?_
          rotate_left
          · intro w hSw; (try dsimp only at hSw); go_simp; try with_reducible rfl
          try simp only [Act.put, List.setIfInBounds_toArray, List.set_cons_zero, List.set_cons_succ]
          refine held_take (i := 1) (v := ?_) rfl (by kernel_rfl) (by kernel_rfl) (by kernel_rfl) (fun _ _ _ h => h) (Or.inl ⟨by rfl, ?_⟩) (by assumption) ?_
          rotate_left
          · intro w hSw; (try dsimp only at hSw); go_simp; try with_reducible rfl
          try simp only [Act.put, List.setIfInBounds_toArray, List.set_cons_zero, List.set_cons_succ]
          refine held_take (i := 2) (v := ?_) rfl (by kernel_rfl) (by kernel_rfl) (by kernel_rfl) (fun _ _ _ h => h) (Or.inl ⟨by rfl, ?_⟩) (by assumption) ?_
          rotate_left
          · intro w hSw; (try dsimp only at hSw); go_simp; try with_reducible rfl
          try simp only [Act.put, List.setIfInBounds_toArray, List.set_cons_zero, List.set_cons_succ]
          refine held_take (i := 3) (v := ?_) rfl (by kernel_rfl) (by kernel_rfl) (by kernel_rfl) (fun _ _ _ h => h) (Or.inl ⟨by rfl, ?_⟩) (by assumption) ?_
          rotate_left
          · intro w hSw; (try dsimp only at hSw); go_simp; try with_reducible rfl
          try simp only [Act.put, List.setIfInBounds_toArray, List.set_cons_zero, List.set_cons_succ]
          refine held_take (i := 4) (v := ?_) rfl (by kernel_rfl) (by kernel_rfl) (by kernel_rfl) (fun _ _ _ h => h) (Or.inl ⟨by rfl, ?_⟩) (by assumption) ?_
          rotate_left
          · intro w hSw; (try dsimp only at hSw); go_simp; try with_reducible rfl
          try simp only [Act.put, List.setIfInBounds_toArray, List.set_cons_zero, List.set_cons_succ]
          refine held_take (i := 5) (v := ?_) rfl (by kernel_rfl) (by kernel_rfl) (by kernel_rfl) (fun _ _ _ h => h) (Or.inl ⟨by rfl, ?_⟩) (by assumption) ?_
          rotate_left
          · intro w hSw; (try dsimp only at hSw); go_simp; try with_reducible rfl
          try simp only [Act.put, List.setIfInBounds_toArray, List.set_cons_zero, List.set_cons_succ]
          refine held_take (i := 6) (v := ?_) rfl (by kernel_rfl) (by kernel_rfl) (by kernel_rfl) (fun _ _ _ h => h) (Or.inl ⟨by rfl, ?_⟩) (by assumption) ?_
          rotate_left
          · intro w hSw; (try dsimp only at hSw); go_simp; try with_reducible rfl
          try simp only [Act.put, List.setIfInBounds_toArray, List.set_cons_zero, List.set_cons_succ]
          refine held_take (i := 7) (v := ?_) rfl (by kernel_rfl) (by kernel_rfl) (by kernel_rfl) (fun _ _ _ h => h) (Or.inl ⟨by rfl, ?_⟩) (by assumption) ?_
          rotate_left
          · intro w hSw; (try dsimp only at hSw); go_simp; try with_reducible rfl
          try simp only [Act.put, List.setIfInBounds_toArray, List.set_cons_zero, List.set_cons_succ]
          refine held_take (i := 9) (v := ?_) rfl (by kernel_rfl) (by kernel_rfl) (by kernel_rfl) (fun _ _ _ h => h) (Or.inl ⟨by rfl, ?_⟩) (by assumption) ?_
          rotate_left
          · intro w hSw; (try dsimp only at hSw); go_simp; try with_reducible rfl
          try simp only [Act.put, List.setIfInBounds_toArray, List.set_cons_zero, List.set_cons_succ]
          refine held_take (i := 10) (v := ?_) rfl (by kernel_rfl) (by kernel_rfl) (by kernel_rfl) (fun _ _ _ h => h) (Or.inl ⟨by rfl, ?_⟩) (by assumption) ?_
          rotate_left
          · intro w hSw; (try dsimp only at hSw); go_simp; try with_reducible rfl
          try simp only [Act.put, List.setIfInBounds_toArray, List.set_cons_zero, List.set_cons_succ]
          refine held_take (i := 11) (v := ?_) rfl (by kernel_rfl) (by kernel_rfl) (by kernel_rfl) (fun _ _ _ h => h) (Or.inl ⟨by rfl, ?_⟩) (by assumption) ?_
          rotate_left
          · intro w hSw; (try dsimp only at hSw); go_simp; try with_reducible rfl
          try simp only [Act.put, List.setIfInBounds_toArray, List.set_cons_zero, List.set_cons_succ]
          refine held_take (i := 12) (v := ?_) rfl (by kernel_rfl) (by kernel_rfl) (by kernel_rfl) (fun _ _ _ h => h) (Or.inl ⟨by rfl, ?_⟩) (by assumption) ?_
          rotate_left
          · intro w hSw; (try dsimp only at hSw); go_simp; try with_reducible rfl
          try simp only [Act.put, List.setIfInBounds_toArray, List.set_cons_zero, List.set_cons_succ]
          refine held_take (i := 13) (v := ?_) rfl (by kernel_rfl) (by kernel_rfl) (by kernel_rfl) (fun _ _ _ h => h) (Or.inl ⟨by rfl, ?_⟩) (by assumption) ?_
          rotate_left
          · intro w hSw; (try dsimp only at hSw); go_simp; try with_reducible rfl
          try simp only [Act.put, List.setIfInBounds_toArray, List.set_cons_zero, List.set_cons_succ]
          refine held_ready (i := 8) rfl (by kernel_rfl) (fun K hK => ?_)
          go_simp
          refine cm.out.mono ?_
          rintro e w3 ⟨v3, rfl, o3, B3⟩
          have st3 := st2d.out.below B3
          have cj := r7join_any w3 v3 _ (o3.text (bytesOf_lt fun i hi => wmix_lt (fun j _ => bS.out j) M i (by omega))) (some ⟨g, 1 + p, none⟩) 1 (cq - 1 - p) _ rfl (st3.text1 hpn2) (by simp [length_bytesOf, length_wordL]) (by decide)
          rw [join_mix] at cj
          have B23 : Below wr.heap.size wr w3 := (Below.refl wr.heap.size wr).drew.trans B3
          clear cm o3 B3
          replace st3 := Lib.hid st3
          replace cj := Lib.hid cj
          replace B23 := Lib.hid B23
          refine hK.out _ _ (trivial) (fun hHeldN => ?_)
          clear hHeld hK K
          have hHeld := hHeldN
          clear hHeldN
          try simp only [Act.put, List.setIfInBounds_toArray, List.set_cons_zero, List.set_cons_succ]
          refine held_ready (i := 14) rfl (by kernel_rfl) (fun K hK => ?_)
          go_simp
          refine cj.out.mono ?_
          rintro e w4 ⟨v4, rfl, o4, B4⟩
          have B24 := B23.out.trans (B4.mono B23.out.size)
          have ct := rback_at (st3.out.below B4).refAt hV.out v4 _ bW.out (o4.text (tabs_lt bW.out))
          clear cj o4 B4 st3 B23
          replace B24 := Lib.hid B24
          replace ct := Lib.hid ct
          refine hK.out _ _ (trivial) (fun hHeldN => ?_)
          clear hHeld hK K
          have hHeld := hHeldN
          clear hHeldN
          try simp only [Act.put, List.setIfInBounds_toArray, List.set_cons_zero, List.set_cons_succ]
          refine held_ready (i := 15) rfl (by kernel_rfl) (fun K hK => ?_)
          go_simp
          refine ct.out.mono ?_
          rintro e w5 ⟨v5, rfl, o5, B5⟩
          have B25 := B24.out.trans (B5.mono B24.out.size)
          have bT := bytes_back hV.out bW.out
          have nx : NotIn v5 g := NotIn.ofOwn o5 (Nat.lt_of_lt_of_le st2.out.lt B24.out.size)
          have t5 := o5.text (tabs_lt bT)
          have eZ : wput S (p + 1) (backF V (wmix (wblk S (p + 1)) M)) = ustep V S I M := by rw [ep.out]; exact (ustep_def V S (p + 1) M).symm
          generalize backF V (wmix (wblk S (p + 1)) M) = x at *
          obtain ⟨ax, cx, rfl, hcx, _⟩ := t5.ex
          have tlo := TextAt.cutHi (hi := 8) t5 (by rw [length_tab]; decide)
          have thi := TextAt.cutLo (lo := 8) t5 (by rw [length_tab]; decide)
          rw [cut_lo] at tlo
          rw [cut_hi] at thi
          rw [length_tab] at nx hcx t5 thi ⊢
          have c1 := run_cut_h (P := Try.prog) (T := 25) (e := 5) Try.underlying25 infoU8s ax 16 cx 8 (by omega) 8 rfl
          have c2 := run_cut_l (P := Try.prog) (T := 25) (e := 5) Try.underlying25 infoU8s ax 16 cx 8 (by decide) 8 rfl
          have n5 : NotIn (.slice ax 8 cx) g := fun ad n' c' e => by
            injection e with e1
            exact nx ad 16 cx (by rw [e1])
          have st6 := st2.out.put B25 hpn2 tlo n5 thi nx.cut
          obtain ⟨uu, cP, fP, _⟩ := (st2.out.below B25).cell hpn2
          rw [eZ, ← es.out] at st6
          clear ct o5 B5 tlo thi nx n5 t5 bT
          replace st6 := Lib.hid st6
          replace B25 := Lib.hid B25
          replace eZ := Lib.hid eZ
          replace hcx := Lib.hid hcx
          refine hK.out _ _ (trivial) (fun hHeldN => ?_)
          clear hHeld hK K
          have hHeld := hHeldN
          clear hHeldN
          try simp only [Act.put, List.setIfInBounds_toArray, List.set_cons_zero, List.set_cons_succ]
          refine held_take (i := 16) (v := ?_) rfl (by kernel_rfl) (by kernel_rfl) (by kernel_rfl) (fun _ _ _ h => h) (Or.inl ⟨by rfl, ?_⟩) (by assumption) ?_
          rotate_left
          · intro w hSw; (try dsimp only at hSw); go_simp; try with_reducible rfl
          try simp only [Act.put, List.setIfInBounds_toArray, List.set_cons_zero, List.set_cons_succ]
          refine wpAnyH_done (by kernel_rfl) ?_ _
          clear hHeld
          clear m1 m2 f1'
          go_wp2_with fail
          go_roundw
          case rel => exact ⟨p, by omega, rfl, by rw [e3.out]; exact st6.out⟩
          case measure => simp [intOf]; have := ep.out; omega
        · obtain rfl : I = 0 := by omega
          simp only [show ((0 : Nat) : Int) = 0 from rfl]
          replace st2 := Lib.hid st2
          go_wp2_with fail
          go_roundw
          case rel => exact ⟨t2, by omega, by go_num, st2.out⟩
          case measure => simp [intOf]
    · obtain rfl : t1 = 0 := by omega
      rw [Nat.mul_zero, Nat.sub_zero] at st1
      simp only [show ((0 : Nat) : Int) - 1 = -1 from rfl]
      have bS : ∀ j, unTo V (byt t) n (6 * n) (6 * n) j < 256 := unTo_lt hV.out (byt_lt st.out) n _ _
      have eR := eU.out
      generalize unTo V (byt t) n (6 * n) (6 * n) = S at *
      have mk := take_marks (F := S) (m := 8 + 8 * n) (by omega)
      have ed : (bytesOf S (8 + 8 * n)).drop 8 = bytesOf (fun j => S (8 + j)) (8 * n) := by rw [bytesOf_add, List.drop_left' (length_bytesOf _ _)]
      obtain ⟨av, cv, rfl, nv⟩ := st1.a.1.nth
      rw [length_bytesOf] at nv ⊢
      have low := st1.low
      generalize bytesOf S (8 + 8 * n) = R at *
      replace st1 := Lib.hid st1
      replace mk := Lib.hid mk
      replace ed := Lib.hid ed
      replace nv := Lib.hid nv
      replace bS := Lib.hid bS
      replace low := Lib.hid low
      replace eR := Lib.hid eR
      go_wp2_with fail
      go_loop [13] (fun iv => ∃ i : Nat, i ≤ 8 ∧ iv = .int .i64 i ∧ ∀ j, j < i → S j = 166) (fun iv => 8 - (intOf iv).toNat)
      case atStart => exact ⟨0, Nat.zero_le _, rfl, fun j hj => by omega⟩
      case round =>
        obtain ⟨i, hi, rfl, hall⟩ := hrel
        by_cases hit : i < 8
        · obtain ⟨vb', vo, rfl, cv1⟩ := nv.out i hit
          rw [byt_bytesOf S hit] at cv1
          have bi := bS.out i
          by_cases h6 : S i = 166
          · have hall2 : ∀ j, j < i + 1 → S j = 166 := fun j hj => by
              by_cases e : j = i
              · subst e; exact h6
              · exact hall j (by omega)
            rw [h6] at cv1
            simp only [show ((166 : Nat) : Int) = 166 from rfl] at cv1
            replace hall := Lib.hid hall
            replace hall2 := Lib.hid hall2
            replace h6 := Lib.hid h6
            replace bi := Lib.hid bi
            go_wp2_with fail
            go_round
            case rel => exact ⟨i + 1, by omega, by go_num, hall2.out⟩
            case measure => simp [intOf]; omega
          · have hno : R.take 8 ≠ List.replicate 8 166 := fun h => h6 (mk.out.1 h i hit)
            have nb : (((S i : Nat) : Int) == 166) = false := beq_eq_false_iff_ne.2 (by omega)
            have nb2 : (((S i : Nat) : Int) != 166) = true := by rw [bne, nb]; rfl
            generalize S i = y at *
            replace hall := Lib.hid hall
            replace h6 := Lib.hid h6
            replace bi := Lib.hid bi
            replace hno := Lib.hid hno
            go_wp2_with fail
            go_ret2
            exact unsays_no eR.out hno.out low.out
        · obtain rfl : i = 8 := by omega
          have hyes : R.take 8 = List.replicate 8 166 := mk.out.2 hall
          simp only [show ((8 : Nat) : Int) = 8 from rfl]
          have hn9 := hn16.out
          have cj := r7join_any wq (.slice none 0 0) [] (TextAt.nil _) (some ⟨g, 1, none⟩) n (cq - 1) _ (by simp) st1.out.texts (by rw [words_flat]; simp [length_bytesOf]; omega) (by omega)
          rw [words_flat, List.nil_append, ← ed.out] at cj
          have sR : ∀ x ∈ R.drop 8, x < 256 := by rw [ed.out]; exact bytesOf_lt fun j _ => bS.out _
          replace hall := Lib.hid hall
          replace hyes := Lib.hid hyes
          replace cj := Lib.hid cj
          replace sR := Lib.hid sR
          replace hn9 := Lib.hid hn9
          go_wp2_with fail
          refine cj.out.mono ?_
          rintro e w3 ⟨v3, rfl, o3, B3⟩
          have lowF := low.out.trans (B3.mono low.out.size)
          have tF := o3.text sR.out
          replace o3 := Lib.hid o3
          replace B3 := Lib.hid B3
          replace lowF := Lib.hid lowF
          replace tF := Lib.hid tF
          go_wp2_with fail
          go_ret2
          exact unsays_yes eR.out hyes.out tF.out lowF.out
end Go.Proofs.Ytecmagenlbnchaa
namespace Go.Proofs.Ytecmagenlbnchaa
set_option maxRecDepth 100000
open Go.RowKit

/-- What Wrap says, and its text. -/
def wrapT (V : Nat → Nat) (t : List Nat) : List Nat := if fitsB t.length 0 = true then wrapL V t else []
def unwT (V : Nat → Nat) (t : List Nat) : List Nat := if unwE V t = 0 then (unL V t).drop 8 else []
theorem wrap_st2 (w : World) (key : List Nat) (hk : key.length = 32) (hs : ∀ x ∈ key, x < 256) (v : Value) (t : List Nat) (ht : TextAt w v t) (hl : t.length < 9223372036854775808) :
    Calls Try.prog 42 #[.agg (u8s key), v] w fun e w' => ∃ x, e = .returned (.tuple #[x, .int .i64 (wrapE t)]) ∧ TextAt w' x (wrapT (byt (wordsOf (byt key))) t) ∧ Below w.heap.size w w' := wrap_st w key hk hs v t ht hl
theorem unwrap_st2 (w : World) (key : List Nat) (hk : key.length = 32) (hs : ∀ x ∈ key, x < 256) (v : Value) (t : List Nat) (ht : TextAt w v t) (hl : t.length < 9223372036854775808) :
    Calls Try.prog 44 #[.agg (u8s key), v] w fun e w' => ∃ x, e = .returned (.tuple #[x, .int .i64 (unwE (byt (wordsOf (byt key))) t)]) ∧ TextAt w' x (unwT (byt (wordsOf (byt key))) t) ∧ Below w.heap.size w w' := unwrap_st w key hk hs v t ht hl
theorem r7wrap_st (w : World) (vk : Value) (key : List Nat) (hk : key.length = 32) (htk : TextAt w vk key) (v : Value) (t : List Nat) (ht : TextAt w v t) (hl : t.length < 9223372036854775808) :
    Calls Try.prog 49 #[vk, v] w fun e w' => ∃ x, e = .returned (.tuple #[x, .int .i64 (wrapE t)]) ∧ TextAt w' x (wrapT (byt (wordsOf (byt key))) t) ∧ Below w.heap.size w w' := by
  obtain ⟨ao, cap, rfl, _⟩ := ht.ex
  unfold wrapE wrapT
  cases hf : fitsB t.length 0 with
  | true => exact r7wrap_ok w vk key hk htk ao t _ cap rfl ht hf
  | false =>
    refine (r7wrap_bad w vk ao _ cap hl hf).mono ?_
    rintro e w' ⟨rfl, h2⟩
    exact ⟨_, rfl, TextAt.nil _, h2⟩
theorem r7unwrap_st (w : World) (vk : Value) (key : List Nat) (hk : key.length = 32) (htk : TextAt w vk key) (v : Value) (t : List Nat) (ht : TextAt w v t) (hl : t.length < 9223372036854775808) :
    Calls Try.prog 46 #[vk, v] w fun e w' => ∃ x, e = .returned (.tuple #[x, .int .i64 (unwE (byt (wordsOf (byt key))) t)]) ∧ TextAt w' x (unwT (byt (wordsOf (byt key))) t) ∧ Below w.heap.size w w' := by
  obtain ⟨ao, cap, rfl, _⟩ := ht.ex
  unfold unwT unwE
  cases hf : fitsB t.length 1 with
  | true =>
    refine (r7unwrap_ok w vk key hk htk ao t _ cap rfl ht hf).mono ?_
    rintro e w' ⟨⟨x, rfl, h1, h2⟩, h3⟩
    refine ⟨x, rfl, ?_, h3⟩
    by_cases h : (unL (byt (wordsOf (byt key))) t).take 8 = List.replicate 8 166
    · rw [if_pos rfl, if_pos h, if_pos rfl]; exact h1 h
    · rw [if_pos rfl, if_neg h, if_neg (by decide), h2 h]; exact TextAt.nil _
  | false =>
    refine (r7unwrap_bad w vk ao _ cap hl hf).mono ?_
    rintro e w' ⟨rfl, h2⟩
    exact ⟨_, rfl, TextAt.nil _, h2⟩

end Go.Proofs.Ytecmagenlbnchaa
