/-
  xts: New, and sectors turned and turned back. Conditions: keys of 32 bytes; the ciphers lie in blocks of their own.
-/
import Derived.Test.YtnadgjlmlnhknaaXtsDouble
import Derived.Test.YtnadgjlmlnhknaaAesBack05
import Derived.Test.YtnadgjlmlnhknaaTx
import Derived.Laws.Cover3
namespace Go.Proofs.Ytnadgjlmlnhknaa
open Go.RowKit

/-- Two ciphers at block b. -/
structure XtsAt (w : World) (b : Nat) (V W : Nat → Nat) : Prop where
  ex : ∃ p q, w.heap[b]? = some (.cells #[.pointer (some ⟨p, 0, none⟩), .pointer (some ⟨q, 0, none⟩)] 79 (0, 0)) ∧ CipherAt w p V ∧ CipherAt w q W
theorem XtsAt.below {w w' : World} {b : Nat} {V W : Nat → Nat} (h : XtsAt w b V W) (hB : Below w.heap.size w w') : XtsAt w' b V W := by
  obtain ⟨p, q, h1, h2, h3⟩ := h.ex
  exact ⟨p, q, (hB.block b (lt_of_block h1)).trans h1, h2.below hB (Nat.le_refl _), h3.below hB (Nat.le_refl _)⟩
theorem XtsAt.lt {w : World} {b : Nat} {V W : Nat → Nat} (h : XtsAt w b V W) : b < w.heap.size := by
  obtain ⟨p, q, h1, _⟩ := h.ex
  exact lt_of_block h1

set_option maxRecDepth 100000 in
theorem xnew_any (w : World) (k1 k2 : List Nat) (h1 : k1.length = 32) (s1 : ∀ x ∈ k1, x < 256) (h2 : k2.length = 32) (s2 : ∀ x ∈ k2, x < 256) :
    Calls Try.prog 30 #[.agg (u8s k1), .agg (u8s k2)] w fun e w' => ∃ b, e = .returned (.pointer (some ⟨b, 0, none⟩)) ∧ w.heap.size ≤ b ∧ XtsAt w' b (byt (wordsOf (byt k1))) (byt (wordsOf (byt k2))) ∧ Below w.heap.size w w' := by
  have r0 : RowB (w.alloc (.cells (u8s k1) 23)) w.heap.size 23 k1 := heap_alloc_new _ _
  have r1 : RowB ((w.alloc (.cells (u8s k1) 23)).alloc (.cells (u8s k2) 23)) (w.heap.size + 1) 23 k2 := by
    rw [show w.heap.size + 1 = (w.alloc (.cells (u8s k1) 23)).heap.size by simp]; exact heap_alloc_new _ _
  have q0 := r0.alloc (.cells (u8s k2) 23)
  have low : Below w.heap.size w ((w.alloc (.cells (u8s k1) 23)).alloc (.cells (u8s k2) 23)) := ((Below.refl _ _).alloc (Nat.le_refl _) _).alloc (by simp) _
  have i1 := info32 h1
  have i2 := info32 h2
  have c1 := Lib.hid (fun wx => new_any wx k1 h1 (byt_small s1))
  have c2 := Lib.hid (fun wx => new_any wx k2 h2 (byt_small s2))
  generalize byt (wordsOf (byt k1)) = V at *
  generalize byt (wordsOf (byt k2)) = W at *
  have qd : RowB ((w.alloc (.cells (u8s k1) 23)).alloc (.cells (u8s k2) 23)).drew w.heap.size 23 k1 := q0
  have rd : RowB ((w.alloc (.cells (u8s k1) 23)).alloc (.cells (u8s k2) 23)).drew (w.heap.size + 1) 23 k2 := r1
  replace r0 := Lib.hid r0
  replace r1 := Lib.hid r1
  replace q0 := Lib.hid q0
  replace low := Lib.hid low
  go_enter Try.func30, Try.ntmps30
  go_wp2_with fail
  refine wp_region_held_drew (S := (fun w' => RowB w' w.heap.size 23 k1 ∧ RowB w' (w.heap.size + 1) 23 k2)) (by kernel_rfl) (⟨qd, rd⟩) (fun hHeld => ?_)
  refine held_take (i := 0) (v := _) rfl (by kernel_rfl) (by kernel_rfl) (by kernel_rfl) (fun _ _ _ h => h) (yieldsIf_row (by rfl) rfl rfl Try.underlying23 i1 (fun w' h => h.1)) (by assumption) ?_
  try simp only [Act.put, List.setIfInBounds_toArray, List.set_cons_zero, List.set_cons_succ]
  refine held_take (i := 2) (v := _) rfl (by kernel_rfl) (by kernel_rfl) (by kernel_rfl) (fun _ _ _ h => h) (yieldsIf_row (by rfl) rfl rfl Try.underlying23 i2 (fun w' h => h.2)) (by assumption) ?_
  try simp only [Act.put, List.setIfInBounds_toArray, List.set_cons_zero, List.set_cons_succ]
  refine held_ready (i := 1) rfl (by kernel_rfl) (fun K hK => ?_)
  go_simp
  refine (c1.out _).mono ?_
  rintro e w1 ⟨b1, rfl, g1, C1, B1⟩
  have qd1 := qd.below B1 qd.lt
  have rd1 := rd.below B1 rd.lt
  have low1 := low.out.drew.trans (B1.mono low.out.size)
  replace B1 := Lib.hid B1
  replace C1 := Lib.hid C1
  replace low1 := Lib.hid low1
  refine hK.out _ _ (⟨qd1, rd1⟩) (fun hHeldN => ?_)
  clear hHeld hK K
  have hHeld := hHeldN
  clear hHeldN
  try simp only [Act.put, List.setIfInBounds_toArray, List.set_cons_zero, List.set_cons_succ]
  refine held_ready (i := 3) rfl (by kernel_rfl) (fun K hK => ?_)
  go_simp
  refine (c2.out _).mono ?_
  rintro e w2 ⟨b2, rfl, g2, C2, B2⟩
  have qd2 := qd1.below B2 qd1.lt
  have rd2 := rd1.below B2 rd1.lt
  have low2 := low1.out.trans (B2.mono low1.out.size)
  have D1 := C1.out.below B2 (Nat.le_refl _)
  replace B2 := Lib.hid B2
  replace C2 := Lib.hid C2
  replace low2 := Lib.hid low2
  replace D1 := Lib.hid D1
  refine hK.out _ _ (⟨qd2, rd2⟩) (fun hHeldN => ?_)
  clear hHeld hK K
  have hHeld := hHeldN
  clear hHeldN
  try simp only [Act.put, List.setIfInBounds_toArray, List.set_cons_zero, List.set_cons_succ]
  refine held_take (i := 4) (v := ?_) rfl (by kernel_rfl) (by kernel_rfl) (by kernel_rfl) (fun _ _ _ h => h) (Or.inl ⟨by rfl, ?_⟩) (by assumption) ?_
  rotate_left
  · intro w hSw; (try dsimp only at hSw); go_simp; try with_reducible rfl
  try simp only [Act.put, List.setIfInBounds_toArray, List.set_cons_zero, List.set_cons_succ]
  refine held_ready (i := 5) rfl (by kernel_rfl) (fun K hK => ?_)
  go_simp
  refine hK.out _ _ (⟨qd2.alloc _, rd2.alloc _⟩) (fun hHeldN => ?_)
  clear hHeld hK K
  have hHeld := hHeldN
  clear hHeldN
  try simp only [Act.put, List.setIfInBounds_toArray, List.set_cons_zero, List.set_cons_succ]
  refine held_take (i := 6) (v := ?_) rfl (by kernel_rfl) (by kernel_rfl) (by kernel_rfl) (fun _ _ _ h => h) (Or.inl ⟨by rfl, ?_⟩) (by assumption) ?_
  rotate_left
  · intro w hSw; (try dsimp only at hSw); go_simp; try with_reducible rfl
  try simp only [Act.put, List.setIfInBounds_toArray, List.set_cons_zero, List.set_cons_succ]
  refine wpAnyH_done (by kernel_rfl) ?_ _
  clear hHeld
  go_wp2_with fail
  go_ret
  refine ⟨_, rfl, Nat.le_trans low2.out.size (Nat.le_refl _), ⟨b1, b2, heap_alloc_new _ _, D1.out.below ((Below.refl _ _).alloc (Nat.le_refl _) _) (Nat.le_refl _), C2.out.below ((Below.refl _ _).alloc (Nat.le_refl _) _) (Nat.le_refl _)⟩, low2.out.alloc low2.out.size _⟩
/-- What may be a sector. -/
def sectorB (n : Nat) : Bool := decide (n ≠ 0 ∧ n % 16 = 0 ∧ n ≤ 65536)

set_option maxRecDepth 100000 in
theorem xall_bad (w : World) (c : Value) (tw : Nat → Nat) (V : Value) (ao : Option Addr) (n cap : Nat) (hs : n < 9223372036854775808) (hb : sectorB n = false) :
    Calls Try.prog 54 #[c, .agg (u8s (tab tw)), .slice ao n cap, V] w fun e w' => e = .returned (.tuple #[.slice none 0 0, .int .i64 3]) ∧ Below w.heap.size w w' := by
  have hf := of_decide_eq_false hb
  clear hb
  have hm : ((n : Int)).tmod 16 = ((n % 16 : Nat) : Int) := by rw [Int.tmod_eq_emod_of_nonneg (by omega)]; omega
  by_cases h0 : n = 0
  · subst h0
    go_enter Try.func54, Try.ntmps54
    go_wp2_with fail
    go_ret2
    exact ⟨rfl, (Below.refl _ _).alloc (Nat.le_refl _) _⟩
  · have d0 : ((n : Int) == 0) = false := beq_eq_false_iff_ne.2 (by omega)
    by_cases h1 : n % 16 = 0
    · rw [h1] at hm
      have d2 : decide ((n : Int) > 65536) = true := decide_eq_true (by omega)
      go_enter Try.func54, Try.ntmps54
      go_wp2_with fail
      go_ret2
      exact ⟨rfl, (Below.refl _ _).alloc (Nat.le_refl _) _⟩
    · have d2 : (((n % 16 : Nat) : Int) == 0) = false := beq_eq_false_iff_ne.2 (by omega)
      have d3 : (((n % 16 : Nat) : Int) != 0) = true := by rw [bne, d2]; rfl
      generalize n % 16 = m at *
      go_enter Try.func54, Try.ntmps54
      go_wp2_with fail
      go_ret2
      exact ⟨rfl, (Below.refl _ _).alloc (Nat.le_refl _) _⟩

/-- What a sector's walk keeps: the mask at g, the answer. -/
structure SecSt (w wr : World) (g Bo : Nat) (v : Value) (mask : Nat → Nat) (out : List Nat) : Prop where
  m : RowB wr g 24 (tab mask)
  o : Own wr Bo 5 v (u8l out)
  low : Below w.heap.size w wr
  far : w.heap.size ≤ g ∧ g < Bo ∧ Bo ≤ wr.heap.size
theorem SecSt.below {w wr w' : World} {g Bo : Nat} {v : Value} {mask : Nat → Nat} {out : List Nat} (h : SecSt w wr g Bo v mask out) (hB : Below wr.heap.size wr w') : SecSt w w' g Bo v mask out :=
  ⟨h.m.below hB h.m.lt, h.o.below hB, h.low.trans (hB.mono h.low.size), h.far.1, h.far.2.1, Nat.le_trans h.far.2.2 hB.size⟩
theorem SecSt.drew {w wr : World} {g Bo : Nat} {v : Value} {mask : Nat → Nat} {out : List Nat} (h : SecSt w wr g Bo v mask out) : SecSt w wr.drew g Bo v mask out := ⟨h.m, h.o, h.low.drew, h.far⟩
/-- A block behind all of these turns. -/
theorem SecSt.upd {w wr w' : World} {g Bo p : Nat} {v : Value} {mask : Nat → Nat} {out : List Nat} (h : SecSt w wr g Bo v mask out) (hp : g < p) (hv : ∀ k, v.ownBlock = some k → k < p) (hU : Upd (fun i => i = p) wr w') : SecSt w w' g Bo v mask out :=
  ⟨h.m.other (hU.block _ h.m.lt (by omega)), h.o.other (fun k hk => hU.block _ (h.o.lt k hk).2 (by have := hv k hk; omega)), h.low.trans (hU.below (fun k hk e => by have := h.far; omega) h.low.size), h.far.1, h.far.2.1, Nat.le_trans h.far.2.2 hU.size⟩
/-- The mask turns. -/
theorem SecSt.mask {w wr w' : World} {g Bo : Nat} {v : Value} {mask mask' : Nat → Nat} {out : List Nat} (h : SecSt w wr g Bo v mask out) (hR : RowB w' g 24 (tab mask')) (hU : Upd (fun i => i = g) wr w') : SecSt w w' g Bo v mask' out :=
  ⟨hR, h.o.other (fun k hk => hU.block _ (h.o.lt k hk).2 (by have := (h.o.lt k hk).1; have := h.far; omega)), h.low.trans (hU.below (fun k hk e => by have := h.far; omega) h.low.size), h.far.1, h.far.2.1, Nat.le_trans h.far.2.2 hU.size⟩
theorem SecSt.grow {w wr w' : World} {g Bo : Nat} {v v' : Value} {mask : Nat → Nat} {out out' : List Nat} (h : SecSt w wr g Bo v mask out) (hO : Own w' Bo 5 v' (u8l out')) (hB : Below Bo wr w') : SecSt w w' g Bo v' mask out' :=
  ⟨h.m.below hB h.far.2.1, hO, h.low.trans (hB.mono (by have := h.far; omega)), h.far.1, h.far.2.1, Nat.le_trans h.far.2.2 hB.size⟩
/-- .. and the block that is turned, at p. -/
structure BlkSt (w wr : World) (g Bo p : Nat) (v : Value) (mask : Nat → Nat) (out : List Nat) (x : Nat → Nat) : Prop where
  s : SecSt w wr g Bo v mask out
  x : RowB wr p 24 (tab x)
  gp : g < p
  vp : ∀ k, v.ownBlock = some k → k < p
theorem BlkSt.put {w wr w' : World} {g Bo p : Nat} {v : Value} {mask : Nat → Nat} {out : List Nat} {x y : Nat → Nat} (h : BlkSt w wr g Bo p v mask out x) (hR : RowB w' p 24 (tab y)) (hU : Upd (fun i => i = p) wr w') : BlkSt w w' g Bo p v mask out y :=
  ⟨h.s.upd h.gp h.vp hU, hR, h.gp, h.vp⟩
theorem BlkSt.set {w wr : World} {g Bo p : Nat} {v : Value} {mask : Nat → Nat} {out : List Nat} {x y : Nat → Nat} {k : Nat} (h : BlkSt w wr g Bo p v mask out (upTo k y x)) : BlkSt w (wr.setCell ⟨p, k, none⟩ (.int .u8 (y k : Int))) g Bo p v mask out (upTo (k + 1) y x) :=
  h.put (by have := h.x.set k (y k); rwa [upTo_set] at this) ((Upd.refl _ _).setCell ⟨p, k, none⟩ _ (fun _ => rfl))
theorem BlkSt.drew {w wr : World} {g Bo p : Nat} {v : Value} {mask : Nat → Nat} {out : List Nat} {x : Nat → Nat} (h : BlkSt w wr g Bo p v mask out x) : BlkSt w wr.drew g Bo p v mask out x := ⟨h.s.drew, h.x, h.gp, h.vp⟩
theorem BlkSt.below {w wr w' : World} {g Bo p : Nat} {v : Value} {mask : Nat → Nat} {out : List Nat} {x : Nat → Nat} (h : BlkSt w wr g Bo p v mask out x) (hB : Below wr.heap.size wr w') : BlkSt w w' g Bo p v mask out x :=
  ⟨h.s.below hB, h.x.below hB h.x.lt, h.gp, h.vp⟩
theorem range16 {w : World} {ob oo n k : Nat} {l : List Nat} (h : ∀ i, i < n → w.cell? ⟨ob, oo + i, none⟩ = some (.int .u8 (byt l i : Nat))) (hk : 16 * k + 16 ≤ n) : w.rangeAt ob (oo + 16 * k) (u8l (tab (blk (byt l) k))) := fun j v hv => by
  have hj : j < 16 := by
    have := (List.getElem?_eq_some_iff.1 hv).1
    simpa [u8l, tab] using this
  rw [Nat.add_assoc, h _ (by omega), ← hv]
  simp [u8l, tab_get _ hj, blk]
theorem sec_next (E : (Nat → Nat) → Nat → Nat) (M b : Nat → Nat) (k : Nat) : bytesOf (sec E M b) (16 * (k + 1)) = bytesOf (sec E M b) (16 * k) ++ tab (under E (maskTo M k) (blk b k)) := by
  rw [show 16 * (k + 1) = 16 * k + 16 by omega, bytesOf_add]
  congr 1
  refine List.map_congr_left fun i hi => ?_
  have := List.mem_range.1 hi
  unfold sec
  rw [show (16 * k + i) / 16 = k by omega, show (16 * k + i) % 16 = i by omega]

end Go.Proofs.Ytnadgjlmlnhknaa
