/-
  The law XtsTweaks. Condition: masks of 16 bytes, stamps of 64 digits.
-/
import Derived.Test.YtnadgjlmlnhknaaLaw06
namespace Go.Proofs.Ytnadgjlmlnhknaa
open Go.RowKit

theorem size_drew' (w : World) : w.drew.heap.size = w.heap.size := rfl
theorem size_alloc' (w : World) (o : Obj) : (w.alloc o).heap.size = w.heap.size + 1 := by simp
/-- What the first statement leaves: two masks at w0's end, blocks for two more. -/
structure TwkSt (w w' : World) (gx gy : Option Nat) (m n : Nat → Nat) : Prop where
  m : RowB w' w.heap.size 24 (tab m)
  n : RowB w' (w.heap.size + 1) 24 (tab n)
  x : ∀ g, gx = some g → RowB w' g 24 (List.replicate 16 0) ∧ w.heap.size + 2 ≤ g
  y : ∀ g, gy = some g → RowB w' g 24 (List.replicate 16 0) ∧ w.heap.size + 2 ≤ g
  ap : ∀ g h, gx = some g → gy = some h → g ≠ h
  low : Below w.heap.size w w'
theorem TwkSt.call {w w' w2 : World} {gx gy : Option Nat} {m n : Nat → Nat} (h : TwkSt w w' gx gy m n) (hB : Below w'.heap.size w' w2) : TwkSt w w2 gx gy m n :=
  ⟨h.m.below hB h.m.lt, h.n.below hB h.n.lt, fun g e => ⟨(h.x g e).1.below hB (h.x g e).1.lt, (h.x g e).2⟩, fun g e => ⟨(h.y g e).1.below hB (h.y g e).1.lt, (h.y g e).2⟩, h.ap, h.low.trans (hB.mono h.low.size)⟩
theorem TwkSt.allocX {w w' : World} {gy : Option Nat} {m n : Nat → Nat} (h : TwkSt w w' none gy m n) : TwkSt w (w'.alloc (.cells (u8s (List.replicate 16 0)) 24)) (some w'.heap.size) gy m n :=
  ⟨h.m.alloc _, h.n.alloc _, fun g e => by cases e; exact ⟨heap_alloc_new _ _, by have := h.n.lt; omega⟩, fun g e => ⟨(h.y g e).1.alloc _, (h.y g e).2⟩,
    fun g k e f => by cases e; have := (h.y k f).1.lt; omega, h.low.alloc h.low.size _⟩
theorem TwkSt.allocY {w w' : World} {gx : Option Nat} {m n : Nat → Nat} (h : TwkSt w w' gx none m n) : TwkSt w (w'.alloc (.cells (u8s (List.replicate 16 0)) 24)) gx (some w'.heap.size) m n :=
  ⟨h.m.alloc _, h.n.alloc _, fun g e => ⟨(h.x g e).1.alloc _, (h.x g e).2⟩, fun g e => by cases e; exact ⟨heap_alloc_new _ _, by have := h.n.lt; omega⟩,
    fun g k e f => by cases f; have := (h.x g e).1.lt; omega, h.low.alloc h.low.size _⟩
/-- Six rows: two masks, their doubles, sums that are being filled. -/
structure SixSt (w w' : World) (gx gy gb gw : Nat) (m n x y b v : Nat → Nat) : Prop where
  m : RowB w' w.heap.size 24 (tab m)
  n : RowB w' (w.heap.size + 1) 24 (tab n)
  x : RowB w' gx 24 (tab x)
  y : RowB w' gy 24 (tab y)
  b : RowB w' gb 24 (tab b)
  v : RowB w' gw 24 (tab v)
  far : w.heap.size + 2 ≤ gx ∧ w.heap.size + 2 ≤ gy ∧ gx < gb ∧ gy < gb ∧ gb < gw
  low : Below w.heap.size w w'
theorem SixSt.call {w w' w2 : World} {gx gy gb gw : Nat} {m n x y b v : Nat → Nat} (h : SixSt w w' gx gy gb gw m n x y b v) (hB : Below w'.heap.size w' w2) : SixSt w w2 gx gy gb gw m n x y b v :=
  ⟨h.m.below hB h.m.lt, h.n.below hB h.n.lt, h.x.below hB h.x.lt, h.y.below hB h.y.lt, h.b.below hB h.b.lt, h.v.below hB h.v.lt, h.far, h.low.trans (hB.mono h.low.size)⟩
theorem SixSt.drew {w w' : World} {gx gy gb gw : Nat} {m n x y b v : Nat → Nat} (h : SixSt w w' gx gy gb gw m n x y b v) : SixSt w w'.drew gx gy gb gw m n x y b v := h.call (Below.refl _ _).drew
theorem SixSt.setB {w w' : World} {gx gy gb gw k : Nat} {m n x y b c v : Nat → Nat} (h : SixSt w w' gx gy gb gw m n x y (upTo k c b) v) : SixSt w (w'.setCell ⟨gb, k, none⟩ (.int .u8 (c k : Int))) gx gy gb gw m n x y (upTo (k + 1) c b) v := by
  have hf := h.far
  exact ⟨h.m.other (heap_setCell_other _ _ _ _ (show w.heap.size ≠ gb by omega)), h.n.other (heap_setCell_other _ _ _ _ (show w.heap.size + 1 ≠ gb by omega)), h.x.other (heap_setCell_other _ _ _ _ (show gx ≠ gb by omega)),
    h.y.other (heap_setCell_other _ _ _ _ (show gy ≠ gb by omega)), by have := h.b.set k (c k); rwa [upTo_set] at this, h.v.other (heap_setCell_other _ _ _ _ (show gw ≠ gb by omega)), hf, h.low.setCell (p := ⟨gb, k, none⟩) (show w.heap.size ≤ gb by omega) _⟩
theorem SixSt.setV {w w' : World} {gx gy gb gw k : Nat} {m n x y b c v : Nat → Nat} (h : SixSt w w' gx gy gb gw m n x y b (upTo k c v)) : SixSt w (w'.setCell ⟨gw, k, none⟩ (.int .u8 (c k : Int))) gx gy gb gw m n x y b (upTo (k + 1) c v) := by
  have hf := h.far
  exact ⟨h.m.other (heap_setCell_other _ _ _ _ (show w.heap.size ≠ gw by omega)), h.n.other (heap_setCell_other _ _ _ _ (show w.heap.size + 1 ≠ gw by omega)), h.x.other (heap_setCell_other _ _ _ _ (show gx ≠ gw by omega)),
    h.y.other (heap_setCell_other _ _ _ _ (show gy ≠ gw by omega)), h.b.other (heap_setCell_other _ _ _ _ (show gb ≠ gw by omega)), by have := h.v.set k (c k); rwa [upTo_set] at this, hf, h.low.setCell (p := ⟨gw, k, none⟩) (show w.heap.size ≤ gw by omega) _⟩

set_option maxHeartbeats 4000000 in
set_option maxRecDepth 100000 in
theorem lxtweaks_any (w : World) (s t : Nat) (hs : s < 18446744073709551616) (ht : t < 18446744073709551616) (lm ln : List Nat) (h1 : lm.length = 16) (s1 : ∀ x ∈ lm, x < 256) (h2 : ln.length = 16) (s2 : ∀ x ∈ ln, x < 256) :
    Calls Try.prog 12 #[.int .u64 s, .int .u64 t, .agg (u8s lm), .agg (u8s ln)] w fun e w' => e = .returned (.bool true) ∧ Below w.heap.size w w' := by
  obtain ⟨m, em⟩ : ∃ m, m = byt lm := ⟨_, rfl⟩
  obtain ⟨n, en⟩ : ∃ n, n = byt ln := ⟨_, rfl⟩
  have bm : Bytes16 m := fun i _ => by rw [em]; exact byt_lt s1 i
  have bn : Bytes16 n := fun i _ => by rw [en]; exact byt_lt s2 i
  rw [show lm = tab m by rw [em, tab_byt h1], show ln = tab n by rw [en, tab_byt h2]]
  clear em en s1 s2 h1 h2
  have st0 : TwkSt w ((w.alloc (.cells (u8s (tab m)) 24)).alloc (.cells (u8s (tab n)) 24)).drew none none m n := by
    have r0 : RowB (w.alloc (.cells (u8s (tab m)) 24)) w.heap.size 24 (tab m) := heap_alloc_new _ _
    have r1 : RowB ((w.alloc (.cells (u8s (tab m)) 24)).alloc (.cells (u8s (tab n)) 24)) (w.heap.size + 1) 24 (tab n) := by
      rw [show w.heap.size + 1 = (w.alloc (.cells (u8s (tab m)) 24)).heap.size by simp]; exact heap_alloc_new _ _
    exact ⟨(r0.alloc _).drew, r1.drew, fun g e => by simp at e, fun g e => by simp at e, fun g h e => by simp at e, (((Below.refl _ _).alloc (Nat.le_refl _) _).alloc (by simp) _).drew⟩
  have im := info16' m
  have inn := info16' n
  have rm0 := st0.m
  have rn0 := st0.n
  replace hs := Lib.hid hs
  replace ht := Lib.hid ht
  replace bm := Lib.hid bm
  replace bn := Lib.hid bn
  replace st0 := Lib.hid st0
  go_enter Try.func12, Try.ntmps12
  go_upto_region 1 with fail
  go_cut [9, 10] (fun s9 s10 wx => ∃ gx gy : Nat, s9 = .pointer (some ⟨gx, 0, none⟩) ∧ s10 = .pointer (some ⟨gy, 0, none⟩) ∧ RowB wx w.heap.size 24 (tab m) ∧ RowB wx (w.heap.size + 1) 24 (tab n) ∧ RowB wx gx 24 (tab (dblM m)) ∧ RowB wx gy 24 (tab (dblM n)) ∧ w.heap.size + 2 ≤ gx ∧ w.heap.size + 2 ≤ gy ∧ Below w.heap.size w wx)
  case first =>
    have hS := st0.out
    refine wp_region_held_drew (S := (fun w' => RowB w' w.heap.size 24 (tab m) ∧ RowB w' (w.heap.size + 1) 24 (tab n))) (by kernel_rfl) (⟨rm0, rn0⟩) (fun hHeld => ?_)
    refine held_take (i := 0) (v := _) rfl (by kernel_rfl) (by kernel_rfl) (by kernel_rfl) (fun _ _ _ h => h) (yieldsIf_row (by rfl) rfl rfl Try.underlying24 im (fun w' h => h.1)) (by assumption) ?_
    try simp only [Act.put, List.setIfInBounds_toArray, List.set_cons_zero, List.set_cons_succ]
    refine held_take (i := 2) (v := _) rfl (by kernel_rfl) (by kernel_rfl) (by kernel_rfl) (fun _ _ _ h => h) (yieldsIf_row (by rfl) rfl rfl Try.underlying24 inn (fun w' h => h.2)) (by assumption) ?_
    try simp only [Act.put, List.setIfInBounds_toArray, List.set_cons_zero, List.set_cons_succ]
    refine held_readies3 (i0 := 1) (i1 := 4) (i2 := 5) rfl rfl rfl (by kernel_rfl) (fun K hK => ?_) (fun K hK => ?_) (fun K hK => ?_)
    ·
      go_simp
      refine (xdouble_any m bm.out _).mono ?_
      rintro e wx ⟨rfl, Bx⟩
      replace hS := hS.call Bx
      clear Bx
      refine hK.out _ _ (⟨hS.m, hS.n⟩) (fun hHeldN => ?_)
      clear hHeld hK K
      have hHeld := hHeldN
      clear hHeldN
      try simp only [Act.put, List.setIfInBounds_toArray, List.set_cons_zero, List.set_cons_succ]
      refine held_readies3 (i0 := 3) (i1 := 4) (i2 := 5) rfl rfl rfl (by kernel_rfl) (fun K hK => ?_) (fun K hK => ?_) (fun K hK => ?_)
      ·
        go_simp
        refine (xdouble_any n bn.out _).mono ?_
        rintro e wx ⟨rfl, Bx⟩
        replace hS := hS.call Bx
        clear Bx
        refine hK.out _ _ (⟨hS.m, hS.n⟩) (fun hHeldN => ?_)
        clear hHeld hK K
        have hHeld := hHeldN
        clear hHeldN
        try simp only [Act.put, List.setIfInBounds_toArray, List.set_cons_zero, List.set_cons_succ]
        refine held_readies2 (i0 := 4) (i1 := 5) rfl rfl (by kernel_rfl) (fun K hK => ?_) (fun K hK => ?_)
        ·
          replace hS := Lib.hid hS
          go_simp
          replace hS := hS.out
          replace hS := hS.allocX
          refine hK.out _ _ (⟨hS.m, hS.n⟩) (fun hHeldN => ?_)
          clear hHeld hK K
          have hHeld := hHeldN
          clear hHeldN
          try simp only [Act.put, List.setIfInBounds_toArray, List.set_cons_zero, List.set_cons_succ]
          refine held_ready (i := 5) rfl (by kernel_rfl) (fun K hK => ?_)
          replace hS := Lib.hid hS
          go_simp
          replace hS := hS.out
          replace hS := hS.allocY
          refine hK.out _ _ (⟨hS.m, hS.n⟩) (fun hHeldN => ?_)
          clear hHeld hK K
          have hHeld := hHeldN
          clear hHeldN
          try simp only [Act.put, List.setIfInBounds_toArray, List.set_cons_zero, List.set_cons_succ]
          have zx := hS.x _ rfl
          have zy := hS.y _ rfl
          have hap := hS.ap _ _ rfl rfl
          try simp only [size_alloc', size_drew'] at zx
          try simp only [size_alloc', size_drew'] at zy
          try simp only [size_alloc', size_drew'] at hap
          have hm5 := hS.m
          have hn5 := hS.n
          have hl5 := hS.low
          clear hS
          refine held_ready (i := 6) rfl (by kernel_rfl) (fun K hK => ?_)
          rw [if_pos (by rfl)]
          refine wp_store_s 24 (.tmp 9) (.tmp 15) rfl _ (tab (dblM m)) rfl rfl 24 _ zx.1 (info16' _) (by rw [size_tab]; rfl) ?_
          intro w6 R6 U6
          have hm6 := hm5.other (U6.out.block _ hm5.lt (fun e => by have := zx.2; omega))
          have hn6 := hn5.other (U6.out.block _ hn5.lt (fun e => by have := zx.2; omega))
          have zy6 := zy.1.other (U6.out.block _ zy.1.lt (fun e => hap e.symm))
          have hl6 := hl5.trans (U6.out.below (fun k hk e => by have := zx.2; omega) hl5.size)
          refine hK.out _ _ (⟨hm6, hn6⟩) (fun hHeldN => ?_)
          clear hHeld hK K
          have hHeld := hHeldN
          clear hHeldN
          try simp only [Act.put, List.setIfInBounds_toArray, List.set_cons_zero, List.set_cons_succ]
          refine held_ready (i := 7) rfl (by kernel_rfl) (fun K hK => ?_)
          rw [if_pos (by rfl)]
          refine wp_store_s 24 (.tmp 10) (.tmp 17) rfl _ (tab (dblM n)) rfl rfl 24 _ zy6 (info16' _) (by rw [size_tab]; rfl) ?_
          intro w7 R7 U7
          have hm7 := hm6.other (U7.out.block _ hm6.lt (fun e => by have := zy.2; omega))
          have hn7 := hn6.other (U7.out.block _ hn6.lt (fun e => by have := zy.2; omega))
          have R67 := R6.out.other (U7.out.block _ R6.out.lt hap)
          have hl7 := hl6.trans (U7.out.below (fun k hk e => by have := zy.2; omega) hl6.size)
          refine hK.out _ _ (⟨hm7, hn7⟩) (fun hHeldN => ?_)
          clear hHeld hK K
          have hHeld := hHeldN
          clear hHeldN
          try simp only [Act.put, List.setIfInBounds_toArray, List.set_cons_zero, List.set_cons_succ]
          refine wpAnyH_done (by kernel_rfl) ?_ _
          clear hHeld
          replace hm7 := Lib.hid hm7
          replace hn7 := Lib.hid hn7
          replace R67 := Lib.hid R67
          replace hl7 := Lib.hid hl7
          replace R7 := Lib.hid R7
          replace zx := Lib.hid zx
          replace zy := Lib.hid zy
          replace hm6 := Lib.hid hm6
          replace hn6 := Lib.hid hn6
          replace zy6 := Lib.hid zy6
          replace hl6 := Lib.hid hl6
          replace hm5 := Lib.hid hm5
          replace hn5 := Lib.hid hn5
          replace hl5 := Lib.hid hl5
          replace hap := Lib.hid hap
          go_wp2_with fail
          go_meet
          exact ⟨_, _, rfl, rfl, hm7.out, hn7.out, R67.out, R7.out.out, zx.out.2, zy.out.2, hl7.out⟩
        ·
          replace hS := Lib.hid hS
          go_simp
          replace hS := hS.out
          replace hS := hS.allocY
          refine hK.out _ _ (⟨hS.m, hS.n⟩) (fun hHeldN => ?_)
          clear hHeld hK K
          have hHeld := hHeldN
          clear hHeldN
          try simp only [Act.put, List.setIfInBounds_toArray, List.set_cons_zero, List.set_cons_succ]
          refine held_ready (i := 4) rfl (by kernel_rfl) (fun K hK => ?_)
          replace hS := Lib.hid hS
          go_simp
          replace hS := hS.out
          replace hS := hS.allocX
          refine hK.out _ _ (⟨hS.m, hS.n⟩) (fun hHeldN => ?_)
          clear hHeld hK K
          have hHeld := hHeldN
          clear hHeldN
          try simp only [Act.put, List.setIfInBounds_toArray, List.set_cons_zero, List.set_cons_succ]
          have zx := hS.x _ rfl
          have zy := hS.y _ rfl
          have hap := hS.ap _ _ rfl rfl
          try simp only [size_alloc', size_drew'] at zx
          try simp only [size_alloc', size_drew'] at zy
          try simp only [size_alloc', size_drew'] at hap
          have hm5 := hS.m
          have hn5 := hS.n
          have hl5 := hS.low
          clear hS
          refine held_ready (i := 6) rfl (by kernel_rfl) (fun K hK => ?_)
          rw [if_pos (by rfl)]
          refine wp_store_s 24 (.tmp 9) (.tmp 15) rfl _ (tab (dblM m)) rfl rfl 24 _ zx.1 (info16' _) (by rw [size_tab]; rfl) ?_
          intro w6 R6 U6
          have hm6 := hm5.other (U6.out.block _ hm5.lt (fun e => by have := zx.2; omega))
          have hn6 := hn5.other (U6.out.block _ hn5.lt (fun e => by have := zx.2; omega))
          have zy6 := zy.1.other (U6.out.block _ zy.1.lt (fun e => hap e.symm))
          have hl6 := hl5.trans (U6.out.below (fun k hk e => by have := zx.2; omega) hl5.size)
          refine hK.out _ _ (⟨hm6, hn6⟩) (fun hHeldN => ?_)
          clear hHeld hK K
          have hHeld := hHeldN
          clear hHeldN
          try simp only [Act.put, List.setIfInBounds_toArray, List.set_cons_zero, List.set_cons_succ]
          refine held_ready (i := 7) rfl (by kernel_rfl) (fun K hK => ?_)
          rw [if_pos (by rfl)]
          refine wp_store_s 24 (.tmp 10) (.tmp 17) rfl _ (tab (dblM n)) rfl rfl 24 _ zy6 (info16' _) (by rw [size_tab]; rfl) ?_
          intro w7 R7 U7
          have hm7 := hm6.other (U7.out.block _ hm6.lt (fun e => by have := zy.2; omega))
          have hn7 := hn6.other (U7.out.block _ hn6.lt (fun e => by have := zy.2; omega))
          have R67 := R6.out.other (U7.out.block _ R6.out.lt hap)
          have hl7 := hl6.trans (U7.out.below (fun k hk e => by have := zy.2; omega) hl6.size)
          refine hK.out _ _ (⟨hm7, hn7⟩) (fun hHeldN => ?_)
          clear hHeld hK K
          have hHeld := hHeldN
          clear hHeldN
          try simp only [Act.put, List.setIfInBounds_toArray, List.set_cons_zero, List.set_cons_succ]
          refine wpAnyH_done (by kernel_rfl) ?_ _
          clear hHeld
          replace hm7 := Lib.hid hm7
          replace hn7 := Lib.hid hn7
          replace R67 := Lib.hid R67
          replace hl7 := Lib.hid hl7
          replace R7 := Lib.hid R7
          replace zx := Lib.hid zx
          replace zy := Lib.hid zy
          replace hm6 := Lib.hid hm6
          replace hn6 := Lib.hid hn6
          replace zy6 := Lib.hid zy6
          replace hl6 := Lib.hid hl6
          replace hm5 := Lib.hid hm5
          replace hn5 := Lib.hid hn5
          replace hl5 := Lib.hid hl5
          replace hap := Lib.hid hap
          go_wp2_with fail
          go_meet
          exact ⟨_, _, rfl, rfl, hm7.out, hn7.out, R67.out, R7.out.out, zx.out.2, zy.out.2, hl7.out⟩
      ·
        replace hS := Lib.hid hS
        go_simp
        replace hS := hS.out
        replace hS := hS.allocX
        refine hK.out _ _ (⟨hS.m, hS.n⟩) (fun hHeldN => ?_)
        clear hHeld hK K
        have hHeld := hHeldN
        clear hHeldN
        try simp only [Act.put, List.setIfInBounds_toArray, List.set_cons_zero, List.set_cons_succ]
        refine held_readies2 (i0 := 3) (i1 := 5) rfl rfl (by kernel_rfl) (fun K hK => ?_) (fun K hK => ?_)
        ·
          go_simp
          refine (xdouble_any n bn.out _).mono ?_
          rintro e wx ⟨rfl, Bx⟩
          replace hS := hS.call Bx
          clear Bx
          refine hK.out _ _ (⟨hS.m, hS.n⟩) (fun hHeldN => ?_)
          clear hHeld hK K
          have hHeld := hHeldN
          clear hHeldN
          try simp only [Act.put, List.setIfInBounds_toArray, List.set_cons_zero, List.set_cons_succ]
          refine held_ready (i := 5) rfl (by kernel_rfl) (fun K hK => ?_)
          replace hS := Lib.hid hS
          go_simp
          replace hS := hS.out
          replace hS := hS.allocY
          refine hK.out _ _ (⟨hS.m, hS.n⟩) (fun hHeldN => ?_)
          clear hHeld hK K
          have hHeld := hHeldN
          clear hHeldN
          try simp only [Act.put, List.setIfInBounds_toArray, List.set_cons_zero, List.set_cons_succ]
          have zx := hS.x _ rfl
          have zy := hS.y _ rfl
          have hap := hS.ap _ _ rfl rfl
          try simp only [size_alloc', size_drew'] at zx
          try simp only [size_alloc', size_drew'] at zy
          try simp only [size_alloc', size_drew'] at hap
          have hm5 := hS.m
          have hn5 := hS.n
          have hl5 := hS.low
          clear hS
          refine held_ready (i := 6) rfl (by kernel_rfl) (fun K hK => ?_)
          rw [if_pos (by rfl)]
          refine wp_store_s 24 (.tmp 9) (.tmp 15) rfl _ (tab (dblM m)) rfl rfl 24 _ zx.1 (info16' _) (by rw [size_tab]; rfl) ?_
          intro w6 R6 U6
          have hm6 := hm5.other (U6.out.block _ hm5.lt (fun e => by have := zx.2; omega))
          have hn6 := hn5.other (U6.out.block _ hn5.lt (fun e => by have := zx.2; omega))
          have zy6 := zy.1.other (U6.out.block _ zy.1.lt (fun e => hap e.symm))
          have hl6 := hl5.trans (U6.out.below (fun k hk e => by have := zx.2; omega) hl5.size)
          refine hK.out _ _ (⟨hm6, hn6⟩) (fun hHeldN => ?_)
          clear hHeld hK K
          have hHeld := hHeldN
          clear hHeldN
          try simp only [Act.put, List.setIfInBounds_toArray, List.set_cons_zero, List.set_cons_succ]
          refine held_ready (i := 7) rfl (by kernel_rfl) (fun K hK => ?_)
          rw [if_pos (by rfl)]
          refine wp_store_s 24 (.tmp 10) (.tmp 17) rfl _ (tab (dblM n)) rfl rfl 24 _ zy6 (info16' _) (by rw [size_tab]; rfl) ?_
          intro w7 R7 U7
          have hm7 := hm6.other (U7.out.block _ hm6.lt (fun e => by have := zy.2; omega))
          have hn7 := hn6.other (U7.out.block _ hn6.lt (fun e => by have := zy.2; omega))
          have R67 := R6.out.other (U7.out.block _ R6.out.lt hap)
          have hl7 := hl6.trans (U7.out.below (fun k hk e => by have := zy.2; omega) hl6.size)
          refine hK.out _ _ (⟨hm7, hn7⟩) (fun hHeldN => ?_)
          clear hHeld hK K
          have hHeld := hHeldN
          clear hHeldN
          try simp only [Act.put, List.setIfInBounds_toArray, List.set_cons_zero, List.set_cons_succ]
          refine wpAnyH_done (by kernel_rfl) ?_ _
          clear hHeld
          replace hm7 := Lib.hid hm7
          replace hn7 := Lib.hid hn7
          replace R67 := Lib.hid R67
          replace hl7 := Lib.hid hl7
          replace R7 := Lib.hid R7
          replace zx := Lib.hid zx
          replace zy := Lib.hid zy
          replace hm6 := Lib.hid hm6
          replace hn6 := Lib.hid hn6
          replace zy6 := Lib.hid zy6
          replace hl6 := Lib.hid hl6
          replace hm5 := Lib.hid hm5
          replace hn5 := Lib.hid hn5
          replace hl5 := Lib.hid hl5
          replace hap := Lib.hid hap
          go_wp2_with fail
          go_meet
          exact ⟨_, _, rfl, rfl, hm7.out, hn7.out, R67.out, R7.out.out, zx.out.2, zy.out.2, hl7.out⟩
        ·
          replace hS := Lib.hid hS
          go_simp
          replace hS := hS.out
          replace hS := hS.allocY
          refine hK.out _ _ (⟨hS.m, hS.n⟩) (fun hHeldN => ?_)
          clear hHeld hK K
          have hHeld := hHeldN
          clear hHeldN
          try simp only [Act.put, List.setIfInBounds_toArray, List.set_cons_zero, List.set_cons_succ]
          refine held_ready (i := 3) rfl (by kernel_rfl) (fun K hK => ?_)
          go_simp
          refine (xdouble_any n bn.out _).mono ?_
          rintro e wx ⟨rfl, Bx⟩
          replace hS := hS.call Bx
          clear Bx
          refine hK.out _ _ (⟨hS.m, hS.n⟩) (fun hHeldN => ?_)
          clear hHeld hK K
          have hHeld := hHeldN
          clear hHeldN
          try simp only [Act.put, List.setIfInBounds_toArray, List.set_cons_zero, List.set_cons_succ]
          have zx := hS.x _ rfl
          have zy := hS.y _ rfl
          have hap := hS.ap _ _ rfl rfl
          try simp only [size_alloc', size_drew'] at zx
          try simp only [size_alloc', size_drew'] at zy
          try simp only [size_alloc', size_drew'] at hap
          have hm5 := hS.m
          have hn5 := hS.n
          have hl5 := hS.low
          clear hS
          refine held_ready (i := 6) rfl (by kernel_rfl) (fun K hK => ?_)
          rw [if_pos (by rfl)]
          refine wp_store_s 24 (.tmp 9) (.tmp 15) rfl _ (tab (dblM m)) rfl rfl 24 _ zx.1 (info16' _) (by rw [size_tab]; rfl) ?_
          intro w6 R6 U6
          have hm6 := hm5.other (U6.out.block _ hm5.lt (fun e => by have := zx.2; omega))
          have hn6 := hn5.other (U6.out.block _ hn5.lt (fun e => by have := zx.2; omega))
          have zy6 := zy.1.other (U6.out.block _ zy.1.lt (fun e => hap e.symm))
          have hl6 := hl5.trans (U6.out.below (fun k hk e => by have := zx.2; omega) hl5.size)
          refine hK.out _ _ (⟨hm6, hn6⟩) (fun hHeldN => ?_)
          clear hHeld hK K
          have hHeld := hHeldN
          clear hHeldN
          try simp only [Act.put, List.setIfInBounds_toArray, List.set_cons_zero, List.set_cons_succ]
          refine held_ready (i := 7) rfl (by kernel_rfl) (fun K hK => ?_)
          rw [if_pos (by rfl)]
          refine wp_store_s 24 (.tmp 10) (.tmp 17) rfl _ (tab (dblM n)) rfl rfl 24 _ zy6 (info16' _) (by rw [size_tab]; rfl) ?_
          intro w7 R7 U7
          have hm7 := hm6.other (U7.out.block _ hm6.lt (fun e => by have := zy.2; omega))
          have hn7 := hn6.other (U7.out.block _ hn6.lt (fun e => by have := zy.2; omega))
          have R67 := R6.out.other (U7.out.block _ R6.out.lt hap)
          have hl7 := hl6.trans (U7.out.below (fun k hk e => by have := zy.2; omega) hl6.size)
          refine hK.out _ _ (⟨hm7, hn7⟩) (fun hHeldN => ?_)
          clear hHeld hK K
          have hHeld := hHeldN
          clear hHeldN
          try simp only [Act.put, List.setIfInBounds_toArray, List.set_cons_zero, List.set_cons_succ]
          refine wpAnyH_done (by kernel_rfl) ?_ _
          clear hHeld
          replace hm7 := Lib.hid hm7
          replace hn7 := Lib.hid hn7
          replace R67 := Lib.hid R67
          replace hl7 := Lib.hid hl7
          replace R7 := Lib.hid R7
          replace zx := Lib.hid zx
          replace zy := Lib.hid zy
          replace hm6 := Lib.hid hm6
          replace hn6 := Lib.hid hn6
          replace zy6 := Lib.hid zy6
          replace hl6 := Lib.hid hl6
          replace hm5 := Lib.hid hm5
          replace hn5 := Lib.hid hn5
          replace hl5 := Lib.hid hl5
          replace hap := Lib.hid hap
          go_wp2_with fail
          go_meet
          exact ⟨_, _, rfl, rfl, hm7.out, hn7.out, R67.out, R7.out.out, zx.out.2, zy.out.2, hl7.out⟩
      ·
        replace hS := Lib.hid hS
        go_simp
        replace hS := hS.out
        replace hS := hS.allocY
        refine hK.out _ _ (⟨hS.m, hS.n⟩) (fun hHeldN => ?_)
        clear hHeld hK K
        have hHeld := hHeldN
        clear hHeldN
        try simp only [Act.put, List.setIfInBounds_toArray, List.set_cons_zero, List.set_cons_succ]
        refine held_readies2 (i0 := 3) (i1 := 4) rfl rfl (by kernel_rfl) (fun K hK => ?_) (fun K hK => ?_)
        ·
          go_simp
          refine (xdouble_any n bn.out _).mono ?_
          rintro e wx ⟨rfl, Bx⟩
          replace hS := hS.call Bx
          clear Bx
          refine hK.out _ _ (⟨hS.m, hS.n⟩) (fun hHeldN => ?_)
          clear hHeld hK K
          have hHeld := hHeldN
          clear hHeldN
          try simp only [Act.put, List.setIfInBounds_toArray, List.set_cons_zero, List.set_cons_succ]
          refine held_ready (i := 4) rfl (by kernel_rfl) (fun K hK => ?_)
          replace hS := Lib.hid hS
          go_simp
          replace hS := hS.out
          replace hS := hS.allocX
          refine hK.out _ _ (⟨hS.m, hS.n⟩) (fun hHeldN => ?_)
          clear hHeld hK K
          have hHeld := hHeldN
          clear hHeldN
          try simp only [Act.put, List.setIfInBounds_toArray, List.set_cons_zero, List.set_cons_succ]
          have zx := hS.x _ rfl
          have zy := hS.y _ rfl
          have hap := hS.ap _ _ rfl rfl
          try simp only [size_alloc', size_drew'] at zx
          try simp only [size_alloc', size_drew'] at zy
          try simp only [size_alloc', size_drew'] at hap
          have hm5 := hS.m
          have hn5 := hS.n
          have hl5 := hS.low
          clear hS
          refine held_ready (i := 6) rfl (by kernel_rfl) (fun K hK => ?_)
          rw [if_pos (by rfl)]
          refine wp_store_s 24 (.tmp 9) (.tmp 15) rfl _ (tab (dblM m)) rfl rfl 24 _ zx.1 (info16' _) (by rw [size_tab]; rfl) ?_
          intro w6 R6 U6
          have hm6 := hm5.other (U6.out.block _ hm5.lt (fun e => by have := zx.2; omega))
          have hn6 := hn5.other (U6.out.block _ hn5.lt (fun e => by have := zx.2; omega))
          have zy6 := zy.1.other (U6.out.block _ zy.1.lt (fun e => hap e.symm))
          have hl6 := hl5.trans (U6.out.below (fun k hk e => by have := zx.2; omega) hl5.size)
          refine hK.out _ _ (⟨hm6, hn6⟩) (fun hHeldN => ?_)
          clear hHeld hK K
          have hHeld := hHeldN
          clear hHeldN
          try simp only [Act.put, List.setIfInBounds_toArray, List.set_cons_zero, List.set_cons_succ]
          refine held_ready (i := 7) rfl (by kernel_rfl) (fun K hK => ?_)
          rw [if_pos (by rfl)]
          refine wp_store_s 24 (.tmp 10) (.tmp 17) rfl _ (tab (dblM n)) rfl rfl 24 _ zy6 (info16' _) (by rw [size_tab]; rfl) ?_
          intro w7 R7 U7
          have hm7 := hm6.other (U7.out.block _ hm6.lt (fun e => by have := zy.2; omega))
          have hn7 := hn6.other (U7.out.block _ hn6.lt (fun e => by have := zy.2; omega))
          have R67 := R6.out.other (U7.out.block _ R6.out.lt hap)
          have hl7 := hl6.trans (U7.out.below (fun k hk e => by have := zy.2; omega) hl6.size)
          refine hK.out _ _ (⟨hm7, hn7⟩) (fun hHeldN => ?_)
          clear hHeld hK K
          have hHeld := hHeldN
          clear hHeldN
          try simp only [Act.put, List.setIfInBounds_toArray, List.set_cons_zero, List.set_cons_succ]
          refine wpAnyH_done (by kernel_rfl) ?_ _
          clear hHeld
          replace hm7 := Lib.hid hm7
          replace hn7 := Lib.hid hn7
          replace R67 := Lib.hid R67
          replace hl7 := Lib.hid hl7
          replace R7 := Lib.hid R7
          replace zx := Lib.hid zx
          replace zy := Lib.hid zy
          replace hm6 := Lib.hid hm6
          replace hn6 := Lib.hid hn6
          replace zy6 := Lib.hid zy6
          replace hl6 := Lib.hid hl6
          replace hm5 := Lib.hid hm5
          replace hn5 := Lib.hid hn5
          replace hl5 := Lib.hid hl5
          replace hap := Lib.hid hap
          go_wp2_with fail
          go_meet
          exact ⟨_, _, rfl, rfl, hm7.out, hn7.out, R67.out, R7.out.out, zx.out.2, zy.out.2, hl7.out⟩
        ·
          replace hS := Lib.hid hS
          go_simp
          replace hS := hS.out
          replace hS := hS.allocX
          refine hK.out _ _ (⟨hS.m, hS.n⟩) (fun hHeldN => ?_)
          clear hHeld hK K
          have hHeld := hHeldN
          clear hHeldN
          try simp only [Act.put, List.setIfInBounds_toArray, List.set_cons_zero, List.set_cons_succ]
          refine held_ready (i := 3) rfl (by kernel_rfl) (fun K hK => ?_)
          go_simp
          refine (xdouble_any n bn.out _).mono ?_
          rintro e wx ⟨rfl, Bx⟩
          replace hS := hS.call Bx
          clear Bx
          refine hK.out _ _ (⟨hS.m, hS.n⟩) (fun hHeldN => ?_)
          clear hHeld hK K
          have hHeld := hHeldN
          clear hHeldN
          try simp only [Act.put, List.setIfInBounds_toArray, List.set_cons_zero, List.set_cons_succ]
          have zx := hS.x _ rfl
          have zy := hS.y _ rfl
          have hap := hS.ap _ _ rfl rfl
          try simp only [size_alloc', size_drew'] at zx
          try simp only [size_alloc', size_drew'] at zy
          try simp only [size_alloc', size_drew'] at hap
          have hm5 := hS.m
          have hn5 := hS.n
          have hl5 := hS.low
          clear hS
          refine held_ready (i := 6) rfl (by kernel_rfl) (fun K hK => ?_)
          rw [if_pos (by rfl)]
          refine wp_store_s 24 (.tmp 9) (.tmp 15) rfl _ (tab (dblM m)) rfl rfl 24 _ zx.1 (info16' _) (by rw [size_tab]; rfl) ?_
          intro w6 R6 U6
          have hm6 := hm5.other (U6.out.block _ hm5.lt (fun e => by have := zx.2; omega))
          have hn6 := hn5.other (U6.out.block _ hn5.lt (fun e => by have := zx.2; omega))
          have zy6 := zy.1.other (U6.out.block _ zy.1.lt (fun e => hap e.symm))
          have hl6 := hl5.trans (U6.out.below (fun k hk e => by have := zx.2; omega) hl5.size)
          refine hK.out _ _ (⟨hm6, hn6⟩) (fun hHeldN => ?_)
          clear hHeld hK K
          have hHeld := hHeldN
          clear hHeldN
          try simp only [Act.put, List.setIfInBounds_toArray, List.set_cons_zero, List.set_cons_succ]
          refine held_ready (i := 7) rfl (by kernel_rfl) (fun K hK => ?_)
          rw [if_pos (by rfl)]
          refine wp_store_s 24 (.tmp 10) (.tmp 17) rfl _ (tab (dblM n)) rfl rfl 24 _ zy6 (info16' _) (by rw [size_tab]; rfl) ?_
          intro w7 R7 U7
          have hm7 := hm6.other (U7.out.block _ hm6.lt (fun e => by have := zy.2; omega))
          have hn7 := hn6.other (U7.out.block _ hn6.lt (fun e => by have := zy.2; omega))
          have R67 := R6.out.other (U7.out.block _ R6.out.lt hap)
          have hl7 := hl6.trans (U7.out.below (fun k hk e => by have := zy.2; omega) hl6.size)
          refine hK.out _ _ (⟨hm7, hn7⟩) (fun hHeldN => ?_)
          clear hHeld hK K
          have hHeld := hHeldN
          clear hHeldN
          try simp only [Act.put, List.setIfInBounds_toArray, List.set_cons_zero, List.set_cons_succ]
          refine wpAnyH_done (by kernel_rfl) ?_ _
          clear hHeld
          replace hm7 := Lib.hid hm7
          replace hn7 := Lib.hid hn7
          replace R67 := Lib.hid R67
          replace hl7 := Lib.hid hl7
          replace R7 := Lib.hid R7
          replace zx := Lib.hid zx
          replace zy := Lib.hid zy
          replace hm6 := Lib.hid hm6
          replace hn6 := Lib.hid hn6
          replace zy6 := Lib.hid zy6
          replace hl6 := Lib.hid hl6
          replace hm5 := Lib.hid hm5
          replace hn5 := Lib.hid hn5
          replace hl5 := Lib.hid hl5
          replace hap := Lib.hid hap
          go_wp2_with fail
          go_meet
          exact ⟨_, _, rfl, rfl, hm7.out, hn7.out, R67.out, R7.out.out, zx.out.2, zy.out.2, hl7.out⟩
    ·
      replace hS := Lib.hid hS
      go_simp
      replace hS := hS.out
      replace hS := hS.allocX
      refine hK.out _ _ (⟨hS.m, hS.n⟩) (fun hHeldN => ?_)
      clear hHeld hK K
      have hHeld := hHeldN
      clear hHeldN
      try simp only [Act.put, List.setIfInBounds_toArray, List.set_cons_zero, List.set_cons_succ]
      refine held_readies2 (i0 := 1) (i1 := 5) rfl rfl (by kernel_rfl) (fun K hK => ?_) (fun K hK => ?_)
      ·
        go_simp
        refine (xdouble_any m bm.out _).mono ?_
        rintro e wx ⟨rfl, Bx⟩
        replace hS := hS.call Bx
        clear Bx
        refine hK.out _ _ (⟨hS.m, hS.n⟩) (fun hHeldN => ?_)
        clear hHeld hK K
        have hHeld := hHeldN
        clear hHeldN
        try simp only [Act.put, List.setIfInBounds_toArray, List.set_cons_zero, List.set_cons_succ]
        refine held_readies2 (i0 := 3) (i1 := 5) rfl rfl (by kernel_rfl) (fun K hK => ?_) (fun K hK => ?_)
        ·
          go_simp
          refine (xdouble_any n bn.out _).mono ?_
          rintro e wx ⟨rfl, Bx⟩
          replace hS := hS.call Bx
          clear Bx
          refine hK.out _ _ (⟨hS.m, hS.n⟩) (fun hHeldN => ?_)
          clear hHeld hK K
          have hHeld := hHeldN
          clear hHeldN
          try simp only [Act.put, List.setIfInBounds_toArray, List.set_cons_zero, List.set_cons_succ]
          refine held_ready (i := 5) rfl (by kernel_rfl) (fun K hK => ?_)
          replace hS := Lib.hid hS
          go_simp
          replace hS := hS.out
          replace hS := hS.allocY
          refine hK.out _ _ (⟨hS.m, hS.n⟩) (fun hHeldN => ?_)
          clear hHeld hK K
          have hHeld := hHeldN
          clear hHeldN
          try simp only [Act.put, List.setIfInBounds_toArray, List.set_cons_zero, List.set_cons_succ]
          have zx := hS.x _ rfl
          have zy := hS.y _ rfl
          have hap := hS.ap _ _ rfl rfl
          try simp only [size_alloc', size_drew'] at zx
          try simp only [size_alloc', size_drew'] at zy
          try simp only [size_alloc', size_drew'] at hap
          have hm5 := hS.m
          have hn5 := hS.n
          have hl5 := hS.low
          clear hS
          refine held_ready (i := 6) rfl (by kernel_rfl) (fun K hK => ?_)
          rw [if_pos (by rfl)]
          refine wp_store_s 24 (.tmp 9) (.tmp 15) rfl _ (tab (dblM m)) rfl rfl 24 _ zx.1 (info16' _) (by rw [size_tab]; rfl) ?_
          intro w6 R6 U6
          have hm6 := hm5.other (U6.out.block _ hm5.lt (fun e => by have := zx.2; omega))
          have hn6 := hn5.other (U6.out.block _ hn5.lt (fun e => by have := zx.2; omega))
          have zy6 := zy.1.other (U6.out.block _ zy.1.lt (fun e => hap e.symm))
          have hl6 := hl5.trans (U6.out.below (fun k hk e => by have := zx.2; omega) hl5.size)
          refine hK.out _ _ (⟨hm6, hn6⟩) (fun hHeldN => ?_)
          clear hHeld hK K
          have hHeld := hHeldN
          clear hHeldN
          try simp only [Act.put, List.setIfInBounds_toArray, List.set_cons_zero, List.set_cons_succ]
          refine held_ready (i := 7) rfl (by kernel_rfl) (fun K hK => ?_)
          rw [if_pos (by rfl)]
          refine wp_store_s 24 (.tmp 10) (.tmp 17) rfl _ (tab (dblM n)) rfl rfl 24 _ zy6 (info16' _) (by rw [size_tab]; rfl) ?_
          intro w7 R7 U7
          have hm7 := hm6.other (U7.out.block _ hm6.lt (fun e => by have := zy.2; omega))
          have hn7 := hn6.other (U7.out.block _ hn6.lt (fun e => by have := zy.2; omega))
          have R67 := R6.out.other (U7.out.block _ R6.out.lt hap)
          have hl7 := hl6.trans (U7.out.below (fun k hk e => by have := zy.2; omega) hl6.size)
          refine hK.out _ _ (⟨hm7, hn7⟩) (fun hHeldN => ?_)
          clear hHeld hK K
          have hHeld := hHeldN
          clear hHeldN
          try simp only [Act.put, List.setIfInBounds_toArray, List.set_cons_zero, List.set_cons_succ]
          refine wpAnyH_done (by kernel_rfl) ?_ _
          clear hHeld
          replace hm7 := Lib.hid hm7
          replace hn7 := Lib.hid hn7
          replace R67 := Lib.hid R67
          replace hl7 := Lib.hid hl7
          replace R7 := Lib.hid R7
          replace zx := Lib.hid zx
          replace zy := Lib.hid zy
          replace hm6 := Lib.hid hm6
          replace hn6 := Lib.hid hn6
          replace zy6 := Lib.hid zy6
          replace hl6 := Lib.hid hl6
          replace hm5 := Lib.hid hm5
          replace hn5 := Lib.hid hn5
          replace hl5 := Lib.hid hl5
          replace hap := Lib.hid hap
          go_wp2_with fail
          go_meet
          exact ⟨_, _, rfl, rfl, hm7.out, hn7.out, R67.out, R7.out.out, zx.out.2, zy.out.2, hl7.out⟩
        ·
          replace hS := Lib.hid hS
          go_simp
          replace hS := hS.out
          replace hS := hS.allocY
          refine hK.out _ _ (⟨hS.m, hS.n⟩) (fun hHeldN => ?_)
          clear hHeld hK K
          have hHeld := hHeldN
          clear hHeldN
          try simp only [Act.put, List.setIfInBounds_toArray, List.set_cons_zero, List.set_cons_succ]
          refine held_ready (i := 3) rfl (by kernel_rfl) (fun K hK => ?_)
          go_simp
          refine (xdouble_any n bn.out _).mono ?_
          rintro e wx ⟨rfl, Bx⟩
          replace hS := hS.call Bx
          clear Bx
          refine hK.out _ _ (⟨hS.m, hS.n⟩) (fun hHeldN => ?_)
          clear hHeld hK K
          have hHeld := hHeldN
          clear hHeldN
          try simp only [Act.put, List.setIfInBounds_toArray, List.set_cons_zero, List.set_cons_succ]
          have zx := hS.x _ rfl
          have zy := hS.y _ rfl
          have hap := hS.ap _ _ rfl rfl
          try simp only [size_alloc', size_drew'] at zx
          try simp only [size_alloc', size_drew'] at zy
          try simp only [size_alloc', size_drew'] at hap
          have hm5 := hS.m
          have hn5 := hS.n
          have hl5 := hS.low
          clear hS
          refine held_ready (i := 6) rfl (by kernel_rfl) (fun K hK => ?_)
          rw [if_pos (by rfl)]
          refine wp_store_s 24 (.tmp 9) (.tmp 15) rfl _ (tab (dblM m)) rfl rfl 24 _ zx.1 (info16' _) (by rw [size_tab]; rfl) ?_
          intro w6 R6 U6
          have hm6 := hm5.other (U6.out.block _ hm5.lt (fun e => by have := zx.2; omega))
          have hn6 := hn5.other (U6.out.block _ hn5.lt (fun e => by have := zx.2; omega))
          have zy6 := zy.1.other (U6.out.block _ zy.1.lt (fun e => hap e.symm))
          have hl6 := hl5.trans (U6.out.below (fun k hk e => by have := zx.2; omega) hl5.size)
          refine hK.out _ _ (⟨hm6, hn6⟩) (fun hHeldN => ?_)
          clear hHeld hK K
          have hHeld := hHeldN
          clear hHeldN
          try simp only [Act.put, List.setIfInBounds_toArray, List.set_cons_zero, List.set_cons_succ]
          refine held_ready (i := 7) rfl (by kernel_rfl) (fun K hK => ?_)
          rw [if_pos (by rfl)]
          refine wp_store_s 24 (.tmp 10) (.tmp 17) rfl _ (tab (dblM n)) rfl rfl 24 _ zy6 (info16' _) (by rw [size_tab]; rfl) ?_
          intro w7 R7 U7
          have hm7 := hm6.other (U7.out.block _ hm6.lt (fun e => by have := zy.2; omega))
          have hn7 := hn6.other (U7.out.block _ hn6.lt (fun e => by have := zy.2; omega))
          have R67 := R6.out.other (U7.out.block _ R6.out.lt hap)
          have hl7 := hl6.trans (U7.out.below (fun k hk e => by have := zy.2; omega) hl6.size)
          refine hK.out _ _ (⟨hm7, hn7⟩) (fun hHeldN => ?_)
          clear hHeld hK K
          have hHeld := hHeldN
          clear hHeldN
          try simp only [Act.put, List.setIfInBounds_toArray, List.set_cons_zero, List.set_cons_succ]
          refine wpAnyH_done (by kernel_rfl) ?_ _
          clear hHeld
          replace hm7 := Lib.hid hm7
          replace hn7 := Lib.hid hn7
          replace R67 := Lib.hid R67
          replace hl7 := Lib.hid hl7
          replace R7 := Lib.hid R7
          replace zx := Lib.hid zx
          replace zy := Lib.hid zy
          replace hm6 := Lib.hid hm6
          replace hn6 := Lib.hid hn6
          replace zy6 := Lib.hid zy6
          replace hl6 := Lib.hid hl6
          replace hm5 := Lib.hid hm5
          replace hn5 := Lib.hid hn5
          replace hl5 := Lib.hid hl5
          replace hap := Lib.hid hap
          go_wp2_with fail
          go_meet
          exact ⟨_, _, rfl, rfl, hm7.out, hn7.out, R67.out, R7.out.out, zx.out.2, zy.out.2, hl7.out⟩
      ·
        replace hS := Lib.hid hS
        go_simp
        replace hS := hS.out
        replace hS := hS.allocY
        refine hK.out _ _ (⟨hS.m, hS.n⟩) (fun hHeldN => ?_)
        clear hHeld hK K
        have hHeld := hHeldN
        clear hHeldN
        try simp only [Act.put, List.setIfInBounds_toArray, List.set_cons_zero, List.set_cons_succ]
        refine held_ready (i := 1) rfl (by kernel_rfl) (fun K hK => ?_)
        go_simp
        refine (xdouble_any m bm.out _).mono ?_
        rintro e wx ⟨rfl, Bx⟩
        replace hS := hS.call Bx
        clear Bx
        refine hK.out _ _ (⟨hS.m, hS.n⟩) (fun hHeldN => ?_)
        clear hHeld hK K
        have hHeld := hHeldN
        clear hHeldN
        try simp only [Act.put, List.setIfInBounds_toArray, List.set_cons_zero, List.set_cons_succ]
        refine held_ready (i := 3) rfl (by kernel_rfl) (fun K hK => ?_)
        go_simp
        refine (xdouble_any n bn.out _).mono ?_
        rintro e wx ⟨rfl, Bx⟩
        replace hS := hS.call Bx
        clear Bx
        refine hK.out _ _ (⟨hS.m, hS.n⟩) (fun hHeldN => ?_)
        clear hHeld hK K
        have hHeld := hHeldN
        clear hHeldN
        try simp only [Act.put, List.setIfInBounds_toArray, List.set_cons_zero, List.set_cons_succ]
        have zx := hS.x _ rfl
        have zy := hS.y _ rfl
        have hap := hS.ap _ _ rfl rfl
        try simp only [size_alloc', size_drew'] at zx
        try simp only [size_alloc', size_drew'] at zy
        try simp only [size_alloc', size_drew'] at hap
        have hm5 := hS.m
        have hn5 := hS.n
        have hl5 := hS.low
        clear hS
        refine held_ready (i := 6) rfl (by kernel_rfl) (fun K hK => ?_)
        rw [if_pos (by rfl)]
        refine wp_store_s 24 (.tmp 9) (.tmp 15) rfl _ (tab (dblM m)) rfl rfl 24 _ zx.1 (info16' _) (by rw [size_tab]; rfl) ?_
        intro w6 R6 U6
        have hm6 := hm5.other (U6.out.block _ hm5.lt (fun e => by have := zx.2; omega))
        have hn6 := hn5.other (U6.out.block _ hn5.lt (fun e => by have := zx.2; omega))
        have zy6 := zy.1.other (U6.out.block _ zy.1.lt (fun e => hap e.symm))
        have hl6 := hl5.trans (U6.out.below (fun k hk e => by have := zx.2; omega) hl5.size)
        refine hK.out _ _ (⟨hm6, hn6⟩) (fun hHeldN => ?_)
        clear hHeld hK K
        have hHeld := hHeldN
        clear hHeldN
        try simp only [Act.put, List.setIfInBounds_toArray, List.set_cons_zero, List.set_cons_succ]
        refine held_ready (i := 7) rfl (by kernel_rfl) (fun K hK => ?_)
        rw [if_pos (by rfl)]
        refine wp_store_s 24 (.tmp 10) (.tmp 17) rfl _ (tab (dblM n)) rfl rfl 24 _ zy6 (info16' _) (by rw [size_tab]; rfl) ?_
        intro w7 R7 U7
        have hm7 := hm6.other (U7.out.block _ hm6.lt (fun e => by have := zy.2; omega))
        have hn7 := hn6.other (U7.out.block _ hn6.lt (fun e => by have := zy.2; omega))
        have R67 := R6.out.other (U7.out.block _ R6.out.lt hap)
        have hl7 := hl6.trans (U7.out.below (fun k hk e => by have := zy.2; omega) hl6.size)
        refine hK.out _ _ (⟨hm7, hn7⟩) (fun hHeldN => ?_)
        clear hHeld hK K
        have hHeld := hHeldN
        clear hHeldN
        try simp only [Act.put, List.setIfInBounds_toArray, List.set_cons_zero, List.set_cons_succ]
        refine wpAnyH_done (by kernel_rfl) ?_ _
        clear hHeld
        replace hm7 := Lib.hid hm7
        replace hn7 := Lib.hid hn7
        replace R67 := Lib.hid R67
        replace hl7 := Lib.hid hl7
        replace R7 := Lib.hid R7
        replace zx := Lib.hid zx
        replace zy := Lib.hid zy
        replace hm6 := Lib.hid hm6
        replace hn6 := Lib.hid hn6
        replace zy6 := Lib.hid zy6
        replace hl6 := Lib.hid hl6
        replace hm5 := Lib.hid hm5
        replace hn5 := Lib.hid hn5
        replace hl5 := Lib.hid hl5
        replace hap := Lib.hid hap
        go_wp2_with fail
        go_meet
        exact ⟨_, _, rfl, rfl, hm7.out, hn7.out, R67.out, R7.out.out, zx.out.2, zy.out.2, hl7.out⟩
    ·
      replace hS := Lib.hid hS
      go_simp
      replace hS := hS.out
      replace hS := hS.allocY
      refine hK.out _ _ (⟨hS.m, hS.n⟩) (fun hHeldN => ?_)
      clear hHeld hK K
      have hHeld := hHeldN
      clear hHeldN
      try simp only [Act.put, List.setIfInBounds_toArray, List.set_cons_zero, List.set_cons_succ]
      refine held_readies2 (i0 := 1) (i1 := 4) rfl rfl (by kernel_rfl) (fun K hK => ?_) (fun K hK => ?_)
      ·
        go_simp
        refine (xdouble_any m bm.out _).mono ?_
        rintro e wx ⟨rfl, Bx⟩
        replace hS := hS.call Bx
        clear Bx
        refine hK.out _ _ (⟨hS.m, hS.n⟩) (fun hHeldN => ?_)
        clear hHeld hK K
        have hHeld := hHeldN
        clear hHeldN
        try simp only [Act.put, List.setIfInBounds_toArray, List.set_cons_zero, List.set_cons_succ]
        refine held_readies2 (i0 := 3) (i1 := 4) rfl rfl (by kernel_rfl) (fun K hK => ?_) (fun K hK => ?_)
        ·
          go_simp
          refine (xdouble_any n bn.out _).mono ?_
          rintro e wx ⟨rfl, Bx⟩
          replace hS := hS.call Bx
          clear Bx
          refine hK.out _ _ (⟨hS.m, hS.n⟩) (fun hHeldN => ?_)
          clear hHeld hK K
          have hHeld := hHeldN
          clear hHeldN
          try simp only [Act.put, List.setIfInBounds_toArray, List.set_cons_zero, List.set_cons_succ]
          refine held_ready (i := 4) rfl (by kernel_rfl) (fun K hK => ?_)
          replace hS := Lib.hid hS
          go_simp
          replace hS := hS.out
          replace hS := hS.allocX
          refine hK.out _ _ (⟨hS.m, hS.n⟩) (fun hHeldN => ?_)
          clear hHeld hK K
          have hHeld := hHeldN
          clear hHeldN
          try simp only [Act.put, List.setIfInBounds_toArray, List.set_cons_zero, List.set_cons_succ]
          have zx := hS.x _ rfl
          have zy := hS.y _ rfl
          have hap := hS.ap _ _ rfl rfl
          try simp only [size_alloc', size_drew'] at zx
          try simp only [size_alloc', size_drew'] at zy
          try simp only [size_alloc', size_drew'] at hap
          have hm5 := hS.m
          have hn5 := hS.n
          have hl5 := hS.low
          clear hS
          refine held_ready (i := 6) rfl (by kernel_rfl) (fun K hK => ?_)
          rw [if_pos (by rfl)]
          refine wp_store_s 24 (.tmp 9) (.tmp 15) rfl _ (tab (dblM m)) rfl rfl 24 _ zx.1 (info16' _) (by rw [size_tab]; rfl) ?_
          intro w6 R6 U6
          have hm6 := hm5.other (U6.out.block _ hm5.lt (fun e => by have := zx.2; omega))
          have hn6 := hn5.other (U6.out.block _ hn5.lt (fun e => by have := zx.2; omega))
          have zy6 := zy.1.other (U6.out.block _ zy.1.lt (fun e => hap e.symm))
          have hl6 := hl5.trans (U6.out.below (fun k hk e => by have := zx.2; omega) hl5.size)
          refine hK.out _ _ (⟨hm6, hn6⟩) (fun hHeldN => ?_)
          clear hHeld hK K
          have hHeld := hHeldN
          clear hHeldN
          try simp only [Act.put, List.setIfInBounds_toArray, List.set_cons_zero, List.set_cons_succ]
          refine held_ready (i := 7) rfl (by kernel_rfl) (fun K hK => ?_)
          rw [if_pos (by rfl)]
          refine wp_store_s 24 (.tmp 10) (.tmp 17) rfl _ (tab (dblM n)) rfl rfl 24 _ zy6 (info16' _) (by rw [size_tab]; rfl) ?_
          intro w7 R7 U7
          have hm7 := hm6.other (U7.out.block _ hm6.lt (fun e => by have := zy.2; omega))
          have hn7 := hn6.other (U7.out.block _ hn6.lt (fun e => by have := zy.2; omega))
          have R67 := R6.out.other (U7.out.block _ R6.out.lt hap)
          have hl7 := hl6.trans (U7.out.below (fun k hk e => by have := zy.2; omega) hl6.size)
          refine hK.out _ _ (⟨hm7, hn7⟩) (fun hHeldN => ?_)
          clear hHeld hK K
          have hHeld := hHeldN
          clear hHeldN
          try simp only [Act.put, List.setIfInBounds_toArray, List.set_cons_zero, List.set_cons_succ]
          refine wpAnyH_done (by kernel_rfl) ?_ _
          clear hHeld
          replace hm7 := Lib.hid hm7
          replace hn7 := Lib.hid hn7
          replace R67 := Lib.hid R67
          replace hl7 := Lib.hid hl7
          replace R7 := Lib.hid R7
          replace zx := Lib.hid zx
          replace zy := Lib.hid zy
          replace hm6 := Lib.hid hm6
          replace hn6 := Lib.hid hn6
          replace zy6 := Lib.hid zy6
          replace hl6 := Lib.hid hl6
          replace hm5 := Lib.hid hm5
          replace hn5 := Lib.hid hn5
          replace hl5 := Lib.hid hl5
          replace hap := Lib.hid hap
          go_wp2_with fail
          go_meet
          exact ⟨_, _, rfl, rfl, hm7.out, hn7.out, R67.out, R7.out.out, zx.out.2, zy.out.2, hl7.out⟩
        ·
          replace hS := Lib.hid hS
          go_simp
          replace hS := hS.out
          replace hS := hS.allocX
          refine hK.out _ _ (⟨hS.m, hS.n⟩) (fun hHeldN => ?_)
          clear hHeld hK K
          have hHeld := hHeldN
          clear hHeldN
          try simp only [Act.put, List.setIfInBounds_toArray, List.set_cons_zero, List.set_cons_succ]
          refine held_ready (i := 3) rfl (by kernel_rfl) (fun K hK => ?_)
          go_simp
          refine (xdouble_any n bn.out _).mono ?_
          rintro e wx ⟨rfl, Bx⟩
          replace hS := hS.call Bx
          clear Bx
          refine hK.out _ _ (⟨hS.m, hS.n⟩) (fun hHeldN => ?_)
          clear hHeld hK K
          have hHeld := hHeldN
          clear hHeldN
          try simp only [Act.put, List.setIfInBounds_toArray, List.set_cons_zero, List.set_cons_succ]
          have zx := hS.x _ rfl
          have zy := hS.y _ rfl
          have hap := hS.ap _ _ rfl rfl
          try simp only [size_alloc', size_drew'] at zx
          try simp only [size_alloc', size_drew'] at zy
          try simp only [size_alloc', size_drew'] at hap
          have hm5 := hS.m
          have hn5 := hS.n
          have hl5 := hS.low
          clear hS
          refine held_ready (i := 6) rfl (by kernel_rfl) (fun K hK => ?_)
          rw [if_pos (by rfl)]
          refine wp_store_s 24 (.tmp 9) (.tmp 15) rfl _ (tab (dblM m)) rfl rfl 24 _ zx.1 (info16' _) (by rw [size_tab]; rfl) ?_
          intro w6 R6 U6
          have hm6 := hm5.other (U6.out.block _ hm5.lt (fun e => by have := zx.2; omega))
          have hn6 := hn5.other (U6.out.block _ hn5.lt (fun e => by have := zx.2; omega))
          have zy6 := zy.1.other (U6.out.block _ zy.1.lt (fun e => hap e.symm))
          have hl6 := hl5.trans (U6.out.below (fun k hk e => by have := zx.2; omega) hl5.size)
          refine hK.out _ _ (⟨hm6, hn6⟩) (fun hHeldN => ?_)
          clear hHeld hK K
          have hHeld := hHeldN
          clear hHeldN
          try simp only [Act.put, List.setIfInBounds_toArray, List.set_cons_zero, List.set_cons_succ]
          refine held_ready (i := 7) rfl (by kernel_rfl) (fun K hK => ?_)
          rw [if_pos (by rfl)]
          refine wp_store_s 24 (.tmp 10) (.tmp 17) rfl _ (tab (dblM n)) rfl rfl 24 _ zy6 (info16' _) (by rw [size_tab]; rfl) ?_
          intro w7 R7 U7
          have hm7 := hm6.other (U7.out.block _ hm6.lt (fun e => by have := zy.2; omega))
          have hn7 := hn6.other (U7.out.block _ hn6.lt (fun e => by have := zy.2; omega))
          have R67 := R6.out.other (U7.out.block _ R6.out.lt hap)
          have hl7 := hl6.trans (U7.out.below (fun k hk e => by have := zy.2; omega) hl6.size)
          refine hK.out _ _ (⟨hm7, hn7⟩) (fun hHeldN => ?_)
          clear hHeld hK K
          have hHeld := hHeldN
          clear hHeldN
          try simp only [Act.put, List.setIfInBounds_toArray, List.set_cons_zero, List.set_cons_succ]
          refine wpAnyH_done (by kernel_rfl) ?_ _
          clear hHeld
          replace hm7 := Lib.hid hm7
          replace hn7 := Lib.hid hn7
          replace R67 := Lib.hid R67
          replace hl7 := Lib.hid hl7
          replace R7 := Lib.hid R7
          replace zx := Lib.hid zx
          replace zy := Lib.hid zy
          replace hm6 := Lib.hid hm6
          replace hn6 := Lib.hid hn6
          replace zy6 := Lib.hid zy6
          replace hl6 := Lib.hid hl6
          replace hm5 := Lib.hid hm5
          replace hn5 := Lib.hid hn5
          replace hl5 := Lib.hid hl5
          replace hap := Lib.hid hap
          go_wp2_with fail
          go_meet
          exact ⟨_, _, rfl, rfl, hm7.out, hn7.out, R67.out, R7.out.out, zx.out.2, zy.out.2, hl7.out⟩
      ·
        replace hS := Lib.hid hS
        go_simp
        replace hS := hS.out
        replace hS := hS.allocX
        refine hK.out _ _ (⟨hS.m, hS.n⟩) (fun hHeldN => ?_)
        clear hHeld hK K
        have hHeld := hHeldN
        clear hHeldN
        try simp only [Act.put, List.setIfInBounds_toArray, List.set_cons_zero, List.set_cons_succ]
        refine held_ready (i := 1) rfl (by kernel_rfl) (fun K hK => ?_)
        go_simp
        refine (xdouble_any m bm.out _).mono ?_
        rintro e wx ⟨rfl, Bx⟩
        replace hS := hS.call Bx
        clear Bx
        refine hK.out _ _ (⟨hS.m, hS.n⟩) (fun hHeldN => ?_)
        clear hHeld hK K
        have hHeld := hHeldN
        clear hHeldN
        try simp only [Act.put, List.setIfInBounds_toArray, List.set_cons_zero, List.set_cons_succ]
        refine held_ready (i := 3) rfl (by kernel_rfl) (fun K hK => ?_)
        go_simp
        refine (xdouble_any n bn.out _).mono ?_
        rintro e wx ⟨rfl, Bx⟩
        replace hS := hS.call Bx
        clear Bx
        refine hK.out _ _ (⟨hS.m, hS.n⟩) (fun hHeldN => ?_)
        clear hHeld hK K
        have hHeld := hHeldN
        clear hHeldN
        try simp only [Act.put, List.setIfInBounds_toArray, List.set_cons_zero, List.set_cons_succ]
        have zx := hS.x _ rfl
        have zy := hS.y _ rfl
        have hap := hS.ap _ _ rfl rfl
        try simp only [size_alloc', size_drew'] at zx
        try simp only [size_alloc', size_drew'] at zy
        try simp only [size_alloc', size_drew'] at hap
        have hm5 := hS.m
        have hn5 := hS.n
        have hl5 := hS.low
        clear hS
        refine held_ready (i := 6) rfl (by kernel_rfl) (fun K hK => ?_)
        rw [if_pos (by rfl)]
        refine wp_store_s 24 (.tmp 9) (.tmp 15) rfl _ (tab (dblM m)) rfl rfl 24 _ zx.1 (info16' _) (by rw [size_tab]; rfl) ?_
        intro w6 R6 U6
        have hm6 := hm5.other (U6.out.block _ hm5.lt (fun e => by have := zx.2; omega))
        have hn6 := hn5.other (U6.out.block _ hn5.lt (fun e => by have := zx.2; omega))
        have zy6 := zy.1.other (U6.out.block _ zy.1.lt (fun e => hap e.symm))
        have hl6 := hl5.trans (U6.out.below (fun k hk e => by have := zx.2; omega) hl5.size)
        refine hK.out _ _ (⟨hm6, hn6⟩) (fun hHeldN => ?_)
        clear hHeld hK K
        have hHeld := hHeldN
        clear hHeldN
        try simp only [Act.put, List.setIfInBounds_toArray, List.set_cons_zero, List.set_cons_succ]
        refine held_ready (i := 7) rfl (by kernel_rfl) (fun K hK => ?_)
        rw [if_pos (by rfl)]
        refine wp_store_s 24 (.tmp 10) (.tmp 17) rfl _ (tab (dblM n)) rfl rfl 24 _ zy6 (info16' _) (by rw [size_tab]; rfl) ?_
        intro w7 R7 U7
        have hm7 := hm6.other (U7.out.block _ hm6.lt (fun e => by have := zy.2; omega))
        have hn7 := hn6.other (U7.out.block _ hn6.lt (fun e => by have := zy.2; omega))
        have R67 := R6.out.other (U7.out.block _ R6.out.lt hap)
        have hl7 := hl6.trans (U7.out.below (fun k hk e => by have := zy.2; omega) hl6.size)
        refine hK.out _ _ (⟨hm7, hn7⟩) (fun hHeldN => ?_)
        clear hHeld hK K
        have hHeld := hHeldN
        clear hHeldN
        try simp only [Act.put, List.setIfInBounds_toArray, List.set_cons_zero, List.set_cons_succ]
        refine wpAnyH_done (by kernel_rfl) ?_ _
        clear hHeld
        replace hm7 := Lib.hid hm7
        replace hn7 := Lib.hid hn7
        replace R67 := Lib.hid R67
        replace hl7 := Lib.hid hl7
        replace R7 := Lib.hid R7
        replace zx := Lib.hid zx
        replace zy := Lib.hid zy
        replace hm6 := Lib.hid hm6
        replace hn6 := Lib.hid hn6
        replace zy6 := Lib.hid zy6
        replace hl6 := Lib.hid hl6
        replace hm5 := Lib.hid hm5
        replace hn5 := Lib.hid hn5
        replace hl5 := Lib.hid hl5
        replace hap := Lib.hid hap
        go_wp2_with fail
        go_meet
        exact ⟨_, _, rfl, rfl, hm7.out, hn7.out, R67.out, R7.out.out, zx.out.2, zy.out.2, hl7.out⟩
  case rest =>
    obtain ⟨gx, gy, rfl, rfl, hm, hn, hx, hy, fx, fy, low⟩ := hcut
    have s0 : SixSt w ((wc.alloc (.cells (u8s (List.replicate 16 0)) 24)).alloc (.cells (u8s (List.replicate 16 0)) 24)) gx gy wc.heap.size (wc.heap.size + 1) m n (dblM m) (dblM n) (upTo 0 (fun i => m i ^^^ n i) (fun _ => 0)) (upTo 0 (fun i => dblM m i ^^^ dblM n i) (fun _ => 0)) := by
      have r0 : RowB (wc.alloc (.cells (u8s (List.replicate 16 0)) 24)) wc.heap.size 24 (tab (upTo 0 (fun i => m i ^^^ n i) (fun _ => 0))) := by rw [upTo_none]; exact heap_alloc_new _ _
      have r1 : RowB ((wc.alloc (.cells (u8s (List.replicate 16 0)) 24)).alloc (.cells (u8s (List.replicate 16 0)) 24)) (wc.heap.size + 1) 24 (tab (upTo 0 (fun i => dblM m i ^^^ dblM n i) (fun _ => 0))) := by
        rw [upTo_none, show wc.heap.size + 1 = (wc.alloc (.cells (u8s (List.replicate 16 0)) 24)).heap.size by simp]; exact heap_alloc_new _ _
      exact ⟨(hm.alloc _).alloc _, (hn.alloc _).alloc _, (hx.alloc _).alloc _, (hy.alloc _).alloc _, r0.alloc _, r1, ⟨fx, fy, hx.lt, hy.lt, Nat.lt_succ_self _⟩, (low.alloc low.size _).alloc (by have := low.size; simp; omega) _⟩
    have bx := dblM_lt bm.out
    have byy := dblM_lt bn.out
    have e3 : Same16 (dblM (fun i => m i ^^^ n i)) (fun i => dblM m i ^^^ dblM n i) := dblM_xor bm.out bn.out
    have B2 : (tab (dblM m) == tab (dblM n)) = (tab m == tab n) := by
      rw [Bool.eq_iff_iff, beq_iff_eq, beq_iff_eq]
      exact ⟨fun h => tab_eq (dblM_inj bm.out bn.out (same_tab h)), fun h => tab_eq (same_dblM (same_tab h))⟩
    clear hm hn hx hy fx fy low
    obtain ⟨x, ex⟩ : ∃ x, x = dblM m := ⟨_, rfl⟩
    obtain ⟨y, ey⟩ : ∃ y, y = dblM n := ⟨_, rfl⟩
    rw [← ex, ← ey] at s0 B2
    rw [← ex] at bx
    rw [← ey] at byy
    rw [← ex, ← ey] at e3
    replace s0 := Lib.hid s0
    replace bx := Lib.hid bx
    replace byy := Lib.hid byy
    replace e3 := Lib.hid e3
    replace B2 := Lib.hid B2
    replace ex := Lib.hid ex
    replace ey := Lib.hid ey
    go_wp2_with fail
    generalize wc.heap.size + 1 = gw at *
    generalize wc.heap.size = gb at *
    go_loopw [13] (fun iv wr => ∃ k : Nat, k ≤ 16 ∧ iv = .int .i64 k ∧ SixSt w wr gx gy gb gw m n x y (upTo k (fun i => m i ^^^ n i) (fun _ => 0)) (upTo k (fun i => x i ^^^ y i) (fun _ => 0))) (fun iv _ => 16 - (intOf iv).toNat)
    case atStart => exact ⟨0, by decide, rfl, s0.out⟩
    case round =>
      clear s0
      obtain ⟨k, hk, rfl, st⟩ := hrel
      by_cases hlt : k < 16
      · have sd := st.drew
        have cm := sd.m.cell (tab_get m hlt)
        have cn := sd.n.cell (tab_get n hlt)
        have cx := sd.x.cell (tab_get x hlt)
        have cy := sd.y.cell (tab_get y hlt)
        have cb := sd.b.cell (tab_get (upTo k (fun i => m i ^^^ n i) (fun _ => 0)) hlt)
        have fb := sd.b.frozen k
        have v1 := u8_xor_nat (m k) (n k) (bm.out k hlt) (bn.out k hlt)
        have v2 := u8_xor_nat (x k) (y k) (bx.out k hlt) (byy.out k hlt)
        have s1 : SixSt w (wr.setCell ⟨gb, k, none⟩ (.int .u8 ((m k ^^^ n k : Nat) : Int))).drew gx gy gb gw m n x y (upTo (k + 1) (fun i => m i ^^^ n i) (fun _ => 0)) (upTo k (fun i => x i ^^^ y i) (fun _ => 0)) := st.setB.drew
        have dm := s1.m.cell (tab_get m hlt)
        have dn := s1.n.cell (tab_get n hlt)
        have dx := s1.x.cell (tab_get x hlt)
        have dy := s1.y.cell (tab_get y hlt)
        have cv := s1.v.cell (tab_get (upTo k (fun i => x i ^^^ y i) (fun _ => 0)) hlt)
        have fv := s1.v.frozen k
        have s2 : SixSt w ((wr.setCell ⟨gb, k, none⟩ (.int .u8 ((m k ^^^ n k : Nat) : Int))).setCell ⟨gw, k, none⟩ (.int .u8 ((x k ^^^ y k : Nat) : Int))).drew gx gy gb gw m n x y (upTo (k + 1) (fun i => m i ^^^ n i) (fun _ => 0)) (upTo (k + 1) (fun i => x i ^^^ y i) (fun _ => 0)) := (SixSt.setV (st.setB : SixSt w (wr.setCell ⟨gb, k, none⟩ (.int .u8 ((m k ^^^ n k : Nat) : Int))) gx gy gb gw m n x y (upTo (k + 1) (fun i => m i ^^^ n i) (fun _ => 0)) (upTo k (fun i => x i ^^^ y i) (fun _ => 0)))).drew
        have em := s2.m.cell (tab_get m hlt)
        have en := s2.n.cell (tab_get n hlt)
        have exx := s2.x.cell (tab_get x hlt)
        have eyy := s2.y.cell (tab_get y hlt)
        generalize m k ^^^ n k = z1 at *
        generalize x k ^^^ y k = z2 at *
        generalize m k = um at *
        generalize n k = un at *
        generalize x k = ux at *
        generalize y k = uy at *
        generalize upTo k (fun i => m i ^^^ n i) (fun _ => 0) k = o1 at *
        generalize upTo k (fun i => x i ^^^ y i) (fun _ => 0) k = o2 at *
        replace st := Lib.hid st
        replace sd := Lib.hid sd
        replace s1 := Lib.hid s1
        replace s2 := Lib.hid s2
        replace dm := Lib.hid dm
        replace dn := Lib.hid dn
        replace dx := Lib.hid dx
        replace dy := Lib.hid dy
        replace em := Lib.hid em
        replace en := Lib.hid en
        replace exx := Lib.hid exx
        replace eyy := Lib.hid eyy
        replace cv := Lib.hid cv
        replace fv := Lib.hid fv
        go_wp2_with fail
        refine wp_region_held_drew (S := (fun w' => w'.cell? ⟨w.heap.size, k, none⟩ = some (.int .u8 (um : Int)) ∧ w'.cell? ⟨w.heap.size + 1, k, none⟩ = some (.int .u8 (un : Int)) ∧ w'.cell? ⟨gx, k, none⟩ = some (.int .u8 (ux : Int)) ∧ w'.cell? ⟨gy, k, none⟩ = some (.int .u8 (uy : Int)))) (by kernel_rfl) (⟨cm, cn, cx, cy⟩) (fun hHeld => ?_)
        refine held_take (i := 0) (v := ?_) rfl (by kernel_rfl) (by kernel_rfl) (by kernel_rfl) (fun _ _ _ h => h) (Or.inl ⟨by rfl, ?_⟩) (by assumption) ?_
        rotate_left
        · intro w hSw; (try dsimp only at hSw); go_simp; try with_reducible rfl
        try simp only [Act.put, List.setIfInBounds_toArray, List.set_cons_zero, List.set_cons_succ]
        refine held_take (i := 1) (v := ?_) rfl (by kernel_rfl) (by kernel_rfl) (by kernel_rfl) (fun _ _ _ h => h) (Or.inl ⟨by rfl, ?_⟩) (by assumption) ?_
        rotate_left
        · intro w hSw; (try dsimp only at hSw); go_simp; try with_reducible rfl
        try simp only [Act.put, List.setIfInBounds_toArray, List.set_cons_zero, List.set_cons_succ]
        refine held_take (i := 2) (v := ?_) rfl (by kernel_rfl) (by kernel_rfl) (by kernel_rfl) (fun _ _ _ h => h) (Or.inl ⟨by rfl, ?_⟩) (by assumption) ?_
        rotate_left
        · intro w hSw; (try dsimp only at hSw); go_simp; try with_reducible rfl
        try simp only [Act.put, List.setIfInBounds_toArray, List.set_cons_zero, List.set_cons_succ]
        refine held_take (i := 3) (v := ?_) rfl (by kernel_rfl) (by kernel_rfl) (by kernel_rfl) (fun _ _ _ h => h) (Or.inl ⟨by rfl, ?_⟩) (by assumption) ?_
        rotate_left
        · intro w hSw; (try dsimp only at hSw); go_simp; try with_reducible rfl
        try simp only [Act.put, List.setIfInBounds_toArray, List.set_cons_zero, List.set_cons_succ]
        refine held_take (i := 4) (v := ?_) rfl (by kernel_rfl) (by kernel_rfl) (by kernel_rfl) (fun _ _ _ h => h) (Or.inl ⟨by rfl, ?_⟩) (by assumption) ?_
        rotate_left
        · intro w hSw; (try dsimp only at hSw); go_simp; try with_reducible rfl
        try simp only [Act.put, List.setIfInBounds_toArray, List.set_cons_zero, List.set_cons_succ]
        refine held_take (i := 5) (v := ?_) rfl (by kernel_rfl) (by kernel_rfl) (by kernel_rfl) (fun _ _ _ h => h) (Or.inl ⟨by rfl, ?_⟩) (by assumption) ?_
        rotate_left
        · intro w hSw; (try dsimp only at hSw); go_simp; try with_reducible rfl
        try simp only [Act.put, List.setIfInBounds_toArray, List.set_cons_zero, List.set_cons_succ]
        refine held_take (i := 6) (v := ?_) rfl (by kernel_rfl) (by kernel_rfl) (by kernel_rfl) (fun _ _ _ h => h) (Or.inl ⟨by rfl, ?_⟩) (by assumption) ?_
        rotate_left
        · intro w hSw; (try dsimp only at hSw); go_simp; try with_reducible rfl
        try simp only [Act.put, List.setIfInBounds_toArray, List.set_cons_zero, List.set_cons_succ]
        refine held_take (i := 7) (v := ?_) rfl (by kernel_rfl) (by kernel_rfl) (by kernel_rfl) (fun _ _ _ h => h) (Or.inl ⟨by rfl, ?_⟩) (by assumption) ?_
        rotate_left
        · intro w hSw; (try dsimp only at hSw); go_simp; try with_reducible rfl
        try simp only [Act.put, List.setIfInBounds_toArray, List.set_cons_zero, List.set_cons_succ]
        refine held_take (i := 8) (v := ?_) rfl (by kernel_rfl) (by kernel_rfl) (by kernel_rfl) (fun _ _ _ h => h) (Or.inl ⟨by rfl, ?_⟩) (by assumption) ?_
        rotate_left
        · intro w hSw; (try dsimp only at hSw); go_simp; try with_reducible rfl
        try simp only [Act.put, List.setIfInBounds_toArray, List.set_cons_zero, List.set_cons_succ]
        refine held_take (i := 9) (v := ?_) rfl (by kernel_rfl) (by kernel_rfl) (by kernel_rfl) (fun _ _ _ h => h) (Or.inl ⟨by rfl, ?_⟩) (by assumption) ?_
        rotate_left
        · intro w hSw; (try dsimp only at hSw); go_simp; try with_reducible rfl
        try simp only [Act.put, List.setIfInBounds_toArray, List.set_cons_zero, List.set_cons_succ]
        refine held_take (i := 10) (v := ?_) rfl (by kernel_rfl) (by kernel_rfl) (by kernel_rfl) (fun _ _ _ h => h) (Or.inl ⟨by rfl, ?_⟩) (by assumption) ?_
        rotate_left
        · intro w hSw; (try dsimp only at hSw); go_simp; try with_reducible rfl
        try simp only [Act.put, List.setIfInBounds_toArray, List.set_cons_zero, List.set_cons_succ]
        refine held_take (i := 11) (v := ?_) rfl (by kernel_rfl) (by kernel_rfl) (by kernel_rfl) (fun _ _ _ h => h) (Or.inl ⟨by rfl, ?_⟩) (by assumption) ?_
        rotate_left
        · intro w hSw; (try dsimp only at hSw); go_simp; try with_reducible rfl
        try simp only [Act.put, List.setIfInBounds_toArray, List.set_cons_zero, List.set_cons_succ]
        refine held_take (i := 12) (v := ?_) rfl (by kernel_rfl) (by kernel_rfl) (by kernel_rfl) (fun _ _ _ h => h) (Or.inl ⟨by rfl, ?_⟩) (by assumption) ?_
        rotate_left
        · intro w hSw; (try dsimp only at hSw); go_simp; try with_reducible rfl
        try simp only [Act.put, List.setIfInBounds_toArray, List.set_cons_zero, List.set_cons_succ]
        refine held_take (i := 13) (v := ?_) rfl (by kernel_rfl) (by kernel_rfl) (by kernel_rfl) (fun _ _ _ h => h) (Or.inl ⟨by rfl, ?_⟩) (by assumption) ?_
        rotate_left
        · intro w hSw; (try dsimp only at hSw); go_simp; try with_reducible rfl
        try simp only [Act.put, List.setIfInBounds_toArray, List.set_cons_zero, List.set_cons_succ]
        refine held_take (i := 14) (v := ?_) rfl (by kernel_rfl) (by kernel_rfl) (by kernel_rfl) (fun _ _ _ h => h) (Or.inl ⟨by rfl, ?_⟩) (by assumption) ?_
        rotate_left
        · intro w hSw; (try dsimp only at hSw); go_simp; try with_reducible rfl
        try simp only [Act.put, List.setIfInBounds_toArray, List.set_cons_zero, List.set_cons_succ]
        refine held_take (i := 15) (v := ?_) rfl (by kernel_rfl) (by kernel_rfl) (by kernel_rfl) (fun _ _ _ h => h) (Or.inl ⟨by rfl, ?_⟩) (by assumption) ?_
        rotate_left
        · intro w hSw; (try dsimp only at hSw); go_simp; try with_reducible rfl
        try simp only [Act.put, List.setIfInBounds_toArray, List.set_cons_zero, List.set_cons_succ]
        refine held_take (i := 16) (v := ?_) rfl (by kernel_rfl) (by kernel_rfl) (by kernel_rfl) (fun _ _ _ h => h) (Or.inl ⟨by rfl, ?_⟩) (by assumption) ?_
        rotate_left
        · intro w hSw; (try dsimp only at hSw); go_simp; try with_reducible rfl
        try simp only [Act.put, List.setIfInBounds_toArray, List.set_cons_zero, List.set_cons_succ]
        refine held_ready (i := 17) rfl (by kernel_rfl) (fun K hK => ?_)
        go_simp
        refine hK.out _ _ (⟨dm.out, dn.out, dx.out, dy.out⟩) (fun hHeldN => ?_)
        clear hHeld hK K
        have hHeld := hHeldN
        clear hHeldN
        try simp only [Act.put, List.setIfInBounds_toArray, List.set_cons_zero, List.set_cons_succ]
        clear cm cn cx cy cb fb
        replace cv := cv.out
        replace fv := fv.out
        refine held_take (i := 18) (v := ?_) rfl (by kernel_rfl) (by kernel_rfl) (by kernel_rfl) (fun _ _ _ h => h) (Or.inl ⟨by rfl, ?_⟩) (by assumption) ?_
        rotate_left
        · intro w hSw; (try dsimp only at hSw); go_simp; try with_reducible rfl
        try simp only [Act.put, List.setIfInBounds_toArray, List.set_cons_zero, List.set_cons_succ]
        refine held_ready (i := 19) rfl (by kernel_rfl) (fun K hK => ?_)
        go_simp
        refine hK.out _ _ (⟨em.out, en.out, exx.out, eyy.out⟩) (fun hHeldN => ?_)
        clear hHeld hK K
        have hHeld := hHeldN
        clear hHeldN
        try simp only [Act.put, List.setIfInBounds_toArray, List.set_cons_zero, List.set_cons_succ]
        refine wpAnyH_done (by kernel_rfl) ?_ _
        clear hHeld
        go_wp2_with fail
        go_roundw
        case rel => exact ⟨k + 1, by omega, by go_num, s2.out⟩
        case measure => simp [intOf]; omega
      · obtain rfl : k = 16 := by omega
        have st2 : SixSt w wr gx gy gb gw m n x y (fun i => m i ^^^ n i) (fun i => x i ^^^ y i) := ⟨st.m, st.n, st.x, st.y, by have := st.b; rwa [upTo_all] at this, by have := st.v; rwa [upTo_all] at this, st.far, st.low⟩
        have bz : Bytes16 (fun i => m i ^^^ n i) := fun i hi => xor_lt8 (bm.out i hi) (bn.out i hi)
        have bv : Bytes16 (fun i => x i ^^^ y i) := fun i hi => xor_lt8 (bx.out i hi) (byy.out i hi)
        have q1 := fun (v : World) => cmp16 (twk s) (twk t) (twk_lt s) (twk_lt t) v
        have q2 := fun (v : World) => cmp16 x y bx.out byy.out v
        have q3 := fun (v : World) => cmp16 m n bm.out bn.out v
        have q4 := fun (v : World) => cmp16 (fun i => x i ^^^ y i) (fun i => x i ^^^ y i) bv bv v
        have B1 : (tab (twk s) == tab (twk t)) = ((s : Int) == (t : Int)) := by
          rw [Bool.eq_iff_iff, beq_iff_eq, beq_iff_eq]
          exact ⟨fun h => by have := twk_inj hs.out ht.out (same_tab h); omega, fun h => by rw [show s = t by omega]⟩
        have hd : decide (s = t) = ((s : Int) == (t : Int)) := by
          rw [Bool.eq_iff_iff, decide_eq_true_iff, beq_iff_eq]; omega
        have cd := Lib.hid (fun wx => xdouble_any (fun i => m i ^^^ n i) bz wx)
        rw [tab_eq e3.out] at cd
        rw [B2.out] at q2
        rw [B1] at q1
        simp only [beq_self_eq_true] at q4
        have ix := info16' x
        have iy := info16' y
        have ib := info16' (fun i => m i ^^^ n i)
        have iv := info16' (fun i => x i ^^^ y i)
        clear st B1 bz bv
        generalize (fun i => m i ^^^ n i) = bsum at *
        generalize (fun i => x i ^^^ y i) = vsum at *
        generalize hb1 : ((s : Int) == (t : Int)) = b1 at *
        generalize (tab m == tab n) = b2 at *
        replace st2 := Lib.hid st2
        go_wp2_with fail
        have hS := st2.out.drew
        have rm := hS.m
        have rn := hS.n
        have rx := hS.x
        have ry := hS.y
        have rb := hS.b
        have rv := hS.v
        replace hS := Lib.hid hS
        refine wp_region_held_drew (S := (fun w' => RowB w' w.heap.size 24 (tab m) ∧ RowB w' (w.heap.size + 1) 24 (tab n) ∧ RowB w' gx 24 (tab x) ∧ RowB w' gy 24 (tab y) ∧ RowB w' gb 24 (tab bsum) ∧ RowB w' gw 24 (tab vsum))) (by kernel_rfl) (⟨rm, rn, rx, ry, rb, rv⟩) (fun hHeld => ?_)
        clear rm rn rx ry rb rv
        refine held_ready (i := 0) rfl (by kernel_rfl) (fun K hK => ?_)
        go_simp
        refine (alive06 _).mono ?_
        rintro e w5 ⟨rfl, B5⟩
        replace hS := hS.out
        replace hS := hS.call B5
        clear B5
        have rm := hS.m
        have rn := hS.n
        have rx := hS.x
        have ry := hS.y
        have rb := hS.b
        have rv := hS.v
        replace hS := Lib.hid hS
        refine hK.out _ _ (⟨rm, rn, rx, ry, rb, rv⟩) (fun hHeldN => ?_)
        clear hHeld hK K
        have hHeld := hHeldN
        clear hHeldN
        try simp only [Act.put, List.setIfInBounds_toArray, List.set_cons_zero, List.set_cons_succ]
        clear rm rn rx ry rb rv
        refine held_take (i := 1) (v := ?_) rfl (by kernel_rfl) (by kernel_rfl) (by kernel_rfl) (fun _ _ _ h => h) (Or.inl ⟨by rfl, ?_⟩) (by assumption) ?_
        rotate_left
        · intro w hSw; (try dsimp only at hSw); go_simp; try with_reducible rfl
        try simp only [Act.put, List.setIfInBounds_toArray, List.set_cons_zero, List.set_cons_succ]
        refine held_take (i := 2) (v := ?_) rfl (by kernel_rfl) (by kernel_rfl) (by kernel_rfl) (fun _ _ _ h => h) (Or.inl ⟨by rfl, ?_⟩) (by assumption) ?_
        rotate_left
        · intro w hSw; (try dsimp only at hSw); go_simp; try with_reducible rfl
        try simp only [Act.put, List.setIfInBounds_toArray, List.set_cons_zero, List.set_cons_succ]
        refine held_take (i := 4) (v := ?_) rfl (by kernel_rfl) (by kernel_rfl) (by kernel_rfl) (fun _ _ _ h => h) (Or.inl ⟨by rfl, ?_⟩) (by assumption) ?_
        rotate_left
        · intro w hSw; (try dsimp only at hSw); go_simp; try with_reducible rfl
        try simp only [Act.put, List.setIfInBounds_toArray, List.set_cons_zero, List.set_cons_succ]
        refine held_take (i := 7) (v := ?_) rfl (by kernel_rfl) (by kernel_rfl) (by kernel_rfl) (fun _ _ _ h => h) (Or.inl ⟨by rfl, ?_⟩) (by assumption) ?_
        rotate_left
        · intro w hSw; (try dsimp only at hSw); go_simp; try with_reducible rfl
        try simp only [Act.put, List.setIfInBounds_toArray, List.set_cons_zero, List.set_cons_succ]
        refine held_take (i := 8) (v := ?_) rfl (by kernel_rfl) (by kernel_rfl) (by kernel_rfl) (fun _ _ _ h => h) (Or.inl ⟨by rfl, ?_⟩) (by assumption) ?_
        rotate_left
        · intro w hSw; (try dsimp only at hSw); go_simp; try with_reducible rfl
        try simp only [Act.put, List.setIfInBounds_toArray, List.set_cons_zero, List.set_cons_succ]
        refine held_take (i := 9) (v := ?_) rfl (by kernel_rfl) (by kernel_rfl) (by kernel_rfl) (fun _ _ _ h => h) (Or.inl ⟨by rfl, ?_⟩) (by assumption) ?_
        rotate_left
        · intro w hSw; (try dsimp only at hSw); go_simp; try with_reducible rfl
        try simp only [Act.put, List.setIfInBounds_toArray, List.set_cons_zero, List.set_cons_succ]
        refine held_ready (i := 3) rfl (by kernel_rfl) (fun K hK => ?_)
        go_simp
        refine (xtweak_any s _).mono ?_
        rintro e w6 ⟨rfl, B6⟩
        replace hS := hS.out
        replace hS := hS.call B6
        clear B6
        have rm := hS.m
        have rn := hS.n
        have rx := hS.x
        have ry := hS.y
        have rb := hS.b
        have rv := hS.v
        replace hS := Lib.hid hS
        refine hK.out _ _ (⟨rm, rn, rx, ry, rb, rv⟩) (fun hHeldN => ?_)
        clear hHeld hK K
        have hHeld := hHeldN
        clear hHeldN
        try simp only [Act.put, List.setIfInBounds_toArray, List.set_cons_zero, List.set_cons_succ]
        clear rm rn rx ry rb rv
        refine held_ready (i := 5) rfl (by kernel_rfl) (fun K hK => ?_)
        go_simp
        refine (xtweak_any t _).mono ?_
        rintro e w7 ⟨rfl, B7⟩
        replace hS := hS.out
        replace hS := hS.call B7
        clear B7
        have rm := hS.m
        have rn := hS.n
        have rx := hS.x
        have ry := hS.y
        have rb := hS.b
        have rv := hS.v
        replace hS := Lib.hid hS
        refine hK.out _ _ (⟨rm, rn, rx, ry, rb, rv⟩) (fun hHeldN => ?_)
        clear hHeld hK K
        have hHeld := hHeldN
        clear hHeldN
        try simp only [Act.put, List.setIfInBounds_toArray, List.set_cons_zero, List.set_cons_succ]
        clear rm rn rx ry rb rv
        refine held_take (i := 6) (v := ?_) rfl (by kernel_rfl) (by kernel_rfl) (by kernel_rfl) (fun _ _ _ h => h) (Or.inl ⟨by rfl, ?_⟩) (by assumption) ?_
        rotate_left
        · intro w hSw; (try dsimp only at hSw); go_simp; try with_reducible rfl
        try simp only [Act.put, List.setIfInBounds_toArray, List.set_cons_zero, List.set_cons_succ]
        refine held_take (i := 10) (v := ?_) rfl (by kernel_rfl) (by kernel_rfl) (by kernel_rfl) (fun _ _ _ h => h) (Or.inl ⟨by rfl, ?_⟩) (by assumption) ?_
        rotate_left
        · intro w hSw; (try dsimp only at hSw); go_simp; try with_reducible rfl
        try simp only [Act.put, List.setIfInBounds_toArray, List.set_cons_zero, List.set_cons_succ]
        refine held_take (i := 11) (v := ?_) rfl (by kernel_rfl) (by kernel_rfl) (by kernel_rfl) (fun _ _ _ h => h) (Or.inl ⟨by rfl, ?_⟩) (by assumption) ?_
        rotate_left
        · intro w hSw; (try dsimp only at hSw); go_simp; try with_reducible rfl
        try simp only [Act.put, List.setIfInBounds_toArray, List.set_cons_zero, List.set_cons_succ]
        refine held_take (i := 12) (v := ?_) rfl (by kernel_rfl) (by kernel_rfl) (by kernel_rfl) (fun _ _ _ h => h) (Or.inl ⟨by rfl, ?_⟩) (by assumption) ?_
        rotate_left
        · intro w hSw; (try dsimp only at hSw); go_simp; try with_reducible rfl
        try simp only [Act.put, List.setIfInBounds_toArray, List.set_cons_zero, List.set_cons_succ]
        refine held_take (i := 13) (v := _) rfl (by kernel_rfl) (by kernel_rfl) (by kernel_rfl) (fun _ _ _ h => h) (yieldsIf_row (by rfl) rfl rfl Try.underlying24 ix (fun w' h => h.2.2.1)) (by assumption) ?_
        try simp only [Act.put, List.setIfInBounds_toArray, List.set_cons_zero, List.set_cons_succ]
        refine held_take (i := 14) (v := _) rfl (by kernel_rfl) (by kernel_rfl) (by kernel_rfl) (fun _ _ _ h => h) (yieldsIf_row (by rfl) rfl rfl Try.underlying24 iy (fun w' h => h.2.2.2.1)) (by assumption) ?_
        try simp only [Act.put, List.setIfInBounds_toArray, List.set_cons_zero, List.set_cons_succ]
        refine held_take (i := 15) (v := ?_) rfl (by kernel_rfl) (by kernel_rfl) (by kernel_rfl) (fun _ _ _ h => h) (Or.inl ⟨by rfl, ?_⟩) (by assumption) ?_
        rotate_left
        · intro w hSw; (try dsimp only at hSw); go_simp; try with_reducible rfl
        try simp only [Act.put, List.setIfInBounds_toArray, List.set_cons_zero, List.set_cons_succ]
        refine held_take (i := 16) (v := _) rfl (by kernel_rfl) (by kernel_rfl) (by kernel_rfl) (fun _ _ _ h => h) (yieldsIf_row (by rfl) rfl rfl Try.underlying24 im (fun w' h => h.1)) (by assumption) ?_
        try simp only [Act.put, List.setIfInBounds_toArray, List.set_cons_zero, List.set_cons_succ]
        refine held_take (i := 17) (v := _) rfl (by kernel_rfl) (by kernel_rfl) (by kernel_rfl) (fun _ _ _ h => h) (yieldsIf_row (by rfl) rfl rfl Try.underlying24 inn (fun w' h => h.2.1)) (by assumption) ?_
        try simp only [Act.put, List.setIfInBounds_toArray, List.set_cons_zero, List.set_cons_succ]
        refine held_take (i := 18) (v := ?_) rfl (by kernel_rfl) (by kernel_rfl) (by kernel_rfl) (fun _ _ _ h => h) (Or.inl ⟨by rfl, ?_⟩) (by assumption) ?_
        rotate_left
        · intro w hSw; (try dsimp only at hSw); go_simp; try with_reducible rfl
        try simp only [Act.put, List.setIfInBounds_toArray, List.set_cons_zero, List.set_cons_succ]
        refine held_take (i := 19) (v := ?_) rfl (by kernel_rfl) (by kernel_rfl) (by kernel_rfl) (fun _ _ _ h => h) (Or.inl ⟨by rfl, ?_⟩) (by assumption) ?_
        rotate_left
        · intro w hSw; (try dsimp only at hSw); go_simp; try with_reducible rfl
        try simp only [Act.put, List.setIfInBounds_toArray, List.set_cons_zero, List.set_cons_succ]
        refine held_take (i := 20) (v := ?_) rfl (by kernel_rfl) (by kernel_rfl) (by kernel_rfl) (fun _ _ _ h => h) (Or.inl ⟨by rfl, ?_⟩) (by assumption) ?_
        rotate_left
        · intro w hSw; (try dsimp only at hSw); go_simp; try with_reducible rfl
        try simp only [Act.put, List.setIfInBounds_toArray, List.set_cons_zero, List.set_cons_succ]
        refine held_take (i := 21) (v := ?_) rfl (by kernel_rfl) (by kernel_rfl) (by kernel_rfl) (fun _ _ _ h => h) (Or.inl ⟨by rfl, ?_⟩) (by assumption) ?_
        rotate_left
        · intro w hSw; (try dsimp only at hSw); go_simp; try with_reducible rfl
        try simp only [Act.put, List.setIfInBounds_toArray, List.set_cons_zero, List.set_cons_succ]
        refine held_take (i := 22) (v := _) rfl (by kernel_rfl) (by kernel_rfl) (by kernel_rfl) (fun _ _ _ h => h) (yieldsIf_row (by rfl) rfl rfl Try.underlying24 ib (fun w' h => h.2.2.2.2.1)) (by assumption) ?_
        try simp only [Act.put, List.setIfInBounds_toArray, List.set_cons_zero, List.set_cons_succ]
        refine held_take (i := 24) (v := _) rfl (by kernel_rfl) (by kernel_rfl) (by kernel_rfl) (fun _ _ _ h => h) (yieldsIf_row (by rfl) rfl rfl Try.underlying24 iv (fun w' h => h.2.2.2.2.2)) (by assumption) ?_
        try simp only [Act.put, List.setIfInBounds_toArray, List.set_cons_zero, List.set_cons_succ]
        refine held_ready (i := 23) rfl (by kernel_rfl) (fun K hK => ?_)
        go_simp
        refine (cd.out _).mono ?_
        rintro e w8 ⟨rfl, B8⟩
        replace hS := hS.out
        replace hS := hS.call B8
        clear B8
        have rm := hS.m
        have rn := hS.n
        have rx := hS.x
        have ry := hS.y
        have rb := hS.b
        have rv := hS.v
        replace hS := Lib.hid hS
        refine hK.out _ _ (⟨rm, rn, rx, ry, rb, rv⟩) (fun hHeldN => ?_)
        clear hHeld hK K
        have hHeld := hHeldN
        clear hHeldN
        try simp only [Act.put, List.setIfInBounds_toArray, List.set_cons_zero, List.set_cons_succ]
        clear rm rn rx ry rb rv
        refine held_take (i := 25) (v := ?_) rfl (by kernel_rfl) (by kernel_rfl) (by kernel_rfl) (fun _ _ _ h => h) (Or.inl ⟨by rfl, ?_⟩) (by assumption) ?_
        rotate_left
        · intro w hSw; (try dsimp only at hSw); go_simp; try with_reducible rfl
        try simp only [Act.put, List.setIfInBounds_toArray, List.set_cons_zero, List.set_cons_succ]
        refine held_take (i := 26) (v := ?_) rfl (by kernel_rfl) (by kernel_rfl) (by kernel_rfl) (fun _ _ _ h => h) (Or.inl ⟨by rfl, ?_⟩) (by assumption) ?_
        rotate_left
        · intro w hSw; (try dsimp only at hSw); go_simp; try with_reducible rfl
        try simp only [Act.put, List.setIfInBounds_toArray, List.set_cons_zero, List.set_cons_succ]
        refine held_take (i := 27) (v := ?_) rfl (by kernel_rfl) (by kernel_rfl) (by kernel_rfl) (fun _ _ _ h => h) (Or.inl ⟨by rfl, ?_⟩) (by assumption) ?_
        rotate_left
        · intro w hSw; (try dsimp only at hSw); go_simp; try with_reducible rfl
        try simp only [Act.put, List.setIfInBounds_toArray, List.set_cons_zero, List.set_cons_succ]
        refine wpAnyH_done (by kernel_rfl) ?_ _
        clear hHeld
        go_wp2_with fail
        go_ret
        exact ⟨rfl, hS.out.low⟩
end Go.Proofs.Ytnadgjlmlnhknaa
