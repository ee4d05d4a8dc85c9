/-
  The law AesTurns. Condition: a key of 32 bytes, a block of 16.
-/
import Derived.Test.YtnadgjlmlnhknaaAesWords05
import Derived.Deep.DeepCutAuto
namespace Go.Proofs.Ytnadgjlmlnhknaa
open Go.RowKit

theorem size_drew5 (w : World) : w.drew.heap.size = w.heap.size := rfl
theorem size_alloc5 (w : World) (o : Obj) : (w.alloc o).heap.size = w.heap.size + 1 := by simp
/-- What the statement of both turns keeps while it is done. -/
structure TwoSt (w w' : World) (gx gy : Option Nat) (cb c : Nat) (aw : Option Addr) (cw : Nat) (vb vk : Value) (W x : Nat → Nat) : Prop where
  b : RowB w' (w.heap.size + 1) 24 (tab x)
  C : CipherAt w' cb W
  R : RefC w' c aw cw vb vk W
  x : ∀ g, gx = some g → RowB w' g 24 (List.replicate 16 0) ∧ w.heap.size + 2 ≤ g
  y : ∀ g, gy = some g → RowB w' g 24 (List.replicate 16 0) ∧ w.heap.size + 2 ≤ g
  ap : ∀ g h, gx = some g → gy = some h → g ≠ h
  low : Below w.heap.size w w'
  rl : ∀ g, (gx = some g ∨ gy = some g) → ∃ wq : World, wq.heap.size ≤ g ∧ Below wq.heap.size wq w' ∧ RefC wq c aw cw vb vk W ∧ w.heap.size + 2 ≤ wq.heap.size
theorem TwoSt.call {w w' w2 : World} {gx gy : Option Nat} {cb c : Nat} {aw : Option Addr} {cw : Nat} {vb vk : Value} {W x : Nat → Nat} (h : TwoSt w w' gx gy cb c aw cw vb vk W x) (hB : Below w'.heap.size w' w2) : TwoSt w w2 gx gy cb c aw cw vb vk W x :=
  ⟨h.b.below hB h.b.lt, h.C.below hB (Nat.le_refl _), h.R.below hB, fun g e => ⟨(h.x g e).1.below hB (h.x g e).1.lt, (h.x g e).2⟩, fun g e => ⟨(h.y g e).1.below hB (h.y g e).1.lt, (h.y g e).2⟩, h.ap, h.low.trans (hB.mono h.low.size), fun g e => by
    obtain ⟨wq, h1, h2, h3, h4⟩ := h.rl g e
    exact ⟨wq, h1, h2.trans (hB.mono h2.size), h3, h4⟩⟩
theorem TwoSt.allocX {w w' : World} {gy : Option Nat} {cb c : Nat} {aw : Option Addr} {cw : Nat} {vb vk : Value} {W x : Nat → Nat} (h : TwoSt w w' none gy cb c aw cw vb vk W x) : TwoSt w (w'.alloc (.cells (u8s (List.replicate 16 0)) 24)) (some w'.heap.size) gy cb c aw cw vb vk W x := by
  have hB : Below w'.heap.size w' (w'.alloc (.cells (u8s (List.replicate 16 0)) 24)) := (Below.refl _ _).alloc (Nat.le_refl _) _
  have h2 := h.call hB
  exact ⟨h2.b, h2.C, h2.R, fun g e => by cases e; exact ⟨heap_alloc_new _ _, by have := h.b.lt; omega⟩, h2.y, fun g k e f => by cases e; have := (h.y k f).1.lt; omega, h2.low, fun g e => by
    rcases e with e | e
    · cases e; exact ⟨w', Nat.le_refl _, hB, h.R, by have := h.b.lt; omega⟩
    · exact h2.rl g (.inr e)⟩
theorem TwoSt.allocY {w w' : World} {gx : Option Nat} {cb c : Nat} {aw : Option Addr} {cw : Nat} {vb vk : Value} {W x : Nat → Nat} (h : TwoSt w w' gx none cb c aw cw vb vk W x) : TwoSt w (w'.alloc (.cells (u8s (List.replicate 16 0)) 24)) gx (some w'.heap.size) cb c aw cw vb vk W x := by
  have hB : Below w'.heap.size w' (w'.alloc (.cells (u8s (List.replicate 16 0)) 24)) := (Below.refl _ _).alloc (Nat.le_refl _) _
  have h2 := h.call hB
  exact ⟨h2.b, h2.C, h2.R, h2.x, fun g e => by cases e; exact ⟨heap_alloc_new _ _, by have := h.b.lt; omega⟩, fun g k e f => by cases f; have := (h.x g e).1.lt; omega, h2.low, fun g e => by
    rcases e with e | e
    · exact h2.rl g (.inl e)
    · cases e; exact ⟨w', Nat.le_refl _, hB, h.R, by have := h.b.lt; omega⟩⟩
/-- .. and behind it. -/
structure TrnSt (w w' : World) (gx gy : Nat) (c : Nat) (aw : Option Addr) (cw : Nat) (vb vk : Value) (W x X Y : Nat → Nat) : Prop where
  b : RowB w' (w.heap.size + 1) 24 (tab x)
  x : RowB w' gx 24 (tab X)
  y : RowB w' gy 24 (tab Y)
  R : RefC w' c aw cw vb vk W
  low : Below w.heap.size w w'
theorem TrnSt.call {w w' w2 : World} {gx gy c : Nat} {aw : Option Addr} {cw : Nat} {vb vk : Value} {W x X Y : Nat → Nat} (h : TrnSt w w' gx gy c aw cw vb vk W x X Y) (hB : Below w'.heap.size w' w2) : TrnSt w w2 gx gy c aw cw vb vk W x X Y :=
  ⟨h.b.below hB h.b.lt, h.x.below hB h.x.lt, h.y.below hB h.y.lt, h.R.below hB, h.low.trans (hB.mono h.low.size)⟩
theorem TwoSt.stores {w w' w1 w2 : World} {gx gy : Nat} {cb c : Nat} {aw : Option Addr} {cw : Nat} {vb vk : Value} {W x X Y : Nat → Nat} (h : TwoSt w w' (some gx) (some gy) cb c aw cw vb vk W x)
    (R1 : RowB w1 gx 24 (tab X)) (U1 : Upd (fun i => i = gx) w' w1) (R2 : RowB w2 gy 24 (tab Y)) (U2 : Upd (fun i => i = gy) w1 w2) : TrnSt w w2 gx gy c aw cw vb vk W x X Y := by
  have zx := h.x _ rfl
  have zy := h.y _ rfl
  have ap := h.ap _ _ rfl rfl
  obtain ⟨wq, h1, h2, h3, h4⟩ := h.rl gx (.inl rfl)
  obtain ⟨wz, k1, k2, k3, k4⟩ := h.rl gy (.inr rfl)
  have low1 := h.low.trans (U1.below (fun k hk e => by omega) h.low.size)
  have rr : RefC w2 c aw cw vb vk W := by
    by_cases hle : wq.heap.size ≤ wz.heap.size
    · have a := h2.trans (U1.below (fun k hk e => by omega) h2.size)
      have b := a.trans (U2.below (fun k hk e => by omega) a.size)
      exact h3.below b
    · have a := k2.trans (U1.below (fun k hk e => by omega) k2.size)
      have b := a.trans (U2.below (fun k hk e => by omega) a.size)
      exact k3.below b
  refine ⟨?_, R1.other (U2.block _ R1.lt ap), R2, rr, low1.trans (U2.below (fun k hk e => by omega) low1.size)⟩
  have b1 := h.b.other (U1.block _ h.b.lt (by omega))
  exact b1.other (U2.block _ b1.lt (by omega))

set_option maxHeartbeats 4000000 in
set_option maxRecDepth 100000 in
theorem aturns_any (w : World) (key l : List Nat) (hk : key.length = 32) (hs : ∀ x ∈ key, x < 256) (hl : l.length = 16) (hx : ∀ x ∈ l, x < 256) :
    Calls Try.prog 3 #[.agg (u8s key), .agg (u8s l)] w fun e w' => e = .returned (.bool true) ∧ Below w.heap.size w w' := by
  obtain ⟨x, ex⟩ : ∃ x, x = byt l := ⟨_, rfl⟩
  have el : l = tab x := by rw [ex, tab_byt hl]
  have bx : Bytes16 x := fun i _ => by rw [ex]; exact byt_small hx i
  subst el
  clear ex hl hx
  have hW : ∀ i, byt (wordsOf (byt key)) i < 256 := words_lt (byt_small hs) 60
  obtain ⟨W, eW⟩ : ∃ W, W = byt (wordsOf (byt key)) := ⟨_, rfl⟩
  rw [← eW] at hW
  have bT := bytes_turn hW bx
  have bB := bytes_back hW bx
  have i32 := info32 hk
  have im := info16 x
  have r0 : RowB (w.alloc (.cells (u8s key) 23)) w.heap.size 23 key := heap_alloc_new _ _
  have r1 : RowB ((w.alloc (.cells (u8s key) 23)).alloc (.cells (u8s (tab x)) 24)) (w.heap.size + 1) 24 (tab x) := by
    rw [show w.heap.size + 1 = (w.alloc (.cells (u8s key) 23)).heap.size by simp]; exact heap_alloc_new _ _
  have k1 := r0.alloc (.cells (u8s (tab x)) 24)
  have low0 : Below w.heap.size w ((w.alloc (.cells (u8s key) 23)).alloc (.cells (u8s (tab x)) 24)) := ((Below.refl _ _).alloc (Nat.le_refl _) _).alloc (by simp) _
  have cn := Lib.hid (fun wx => new_any wx key hk (byt_small hs))
  have rn := Lib.hid (fun wx vx h => rnew_any wx vx key hk h)
  rw [← eW] at cn rn
  have al := Lib.hid (fun x => alive05 x)
  replace eW := Lib.hid eW
  replace hW := Lib.hid hW
  replace bx := Lib.hid bx
  replace bT := Lib.hid bT
  replace bB := Lib.hid bB
  replace r0 := Lib.hid r0
  replace r1 := Lib.hid r1
  replace low0 := Lib.hid low0
  replace hs := Lib.hid hs
  replace hk := Lib.hid hk
  replace k1 := Lib.hid k1
  go_enter Try.func3, Try.ntmps3
  go_wp2_with (refine wpList_load_b (by rfl) 23 (.tmp 2) rfl w.heap.size rfl 23 key k1.out _ Try.underlying23 rfl i32 ?_)
  refine (cn.out _).mono ?_
  rintro e w1 ⟨b, rfl, hb, hC, B1⟩
  have kr := k1.out.below B1 k1.out.lt
  have x1 := r1.out.below B1 r1.out.lt
  have low1 := low0.out.trans (B1.mono low0.out.size)
  replace hb := Lib.hid hb
  replace hC := Lib.hid hC
  replace B1 := Lib.hid B1
  replace kr := Lib.hid kr
  replace x1 := Lib.hid x1
  replace low1 := Lib.hid low1
  go_wp2_with fail
  refine (rn.out w1 _ (row_all kr.out hs.out hk.out)).mono ?_
  rintro e w2 ⟨c, aw, cw, vb, vk, rfl, rC, B2⟩
  have st0 : TwoSt w w2.drew none none b c aw cw vb vk W x := ⟨(x1.out.below B2 x1.out.lt).drew, (hC.out.below B2 (Nat.le_refl _)).below (Below.refl _ _).drew (Nat.le_refl _), rC.below (Below.refl _ _).drew, fun g e => by simp at e, fun g e => by simp at e, fun g h e => by simp at e, (low1.out.trans (B2.mono low1.out.size)).drew, fun g e => by simp at e⟩
  clear hC kr x1 low1 rC B2 B1 hb
  replace st0 := Lib.hid st0
  go_upto_region 5 with fail
  go_cut [7, 8] (fun s7 s8 wx => ∃ gx gy : Nat, s7 = .pointer (some ⟨gx, 0, none⟩) ∧ s8 = .pointer (some ⟨gy, 0, none⟩) ∧ TrnSt w wx gx gy c aw cw vb vk W x (turnF W x) (backF W x))
  case first =>
    have hS := st0.out
    refine wp_region_held_drew (S := (fun w' => RowB w' (w.heap.size + 1) 24 (tab x))) (by kernel_rfl) (hS.b) (fun hHeld => ?_)
    refine held_take (i := 1) (v := _) rfl (by kernel_rfl) (by kernel_rfl) (by kernel_rfl) (fun _ _ _ h => h) (yieldsIf_row (by rfl) rfl rfl Try.underlying24 im (fun w' h => h)) (by assumption) ?_
    try simp only [Act.put, List.setIfInBounds_toArray, List.set_cons_zero, List.set_cons_succ]
    refine held_take (i := 4) (v := _) rfl (by kernel_rfl) (by kernel_rfl) (by kernel_rfl) (fun _ _ _ h => h) (yieldsIf_row (by rfl) rfl rfl Try.underlying24 im (fun w' h => h)) (by assumption) ?_
    try simp only [Act.put, List.setIfInBounds_toArray, List.set_cons_zero, List.set_cons_succ]
    refine held_take (i := 0) (v := ?_) rfl (by kernel_rfl) (by kernel_rfl) (by kernel_rfl) (fun _ _ _ h => h) (Or.inl ⟨by rfl, ?_⟩) (by assumption) ?_
    rotate_left
    · intro w hSw; (try dsimp only at hSw); go_simp; try with_reducible rfl
    try simp only [Act.put, List.setIfInBounds_toArray, List.set_cons_zero, List.set_cons_succ]
    refine held_take (i := 3) (v := ?_) rfl (by kernel_rfl) (by kernel_rfl) (by kernel_rfl) (fun _ _ _ h => h) (Or.inl ⟨by rfl, ?_⟩) (by assumption) ?_
    rotate_left
    · intro w hSw; (try dsimp only at hSw); go_simp; try with_reducible rfl
    try simp only [Act.put, List.setIfInBounds_toArray, List.set_cons_zero, List.set_cons_succ]
    refine held_readies3 (i0 := 2) (i1 := 6) (i2 := 7) rfl rfl rfl (by kernel_rfl) (fun K hK => ?_) (fun K hK => ?_) (fun K hK => ?_)
    ·
      go_simp
      refine (turn_any hS.C hW.out x bx.out).mono ?_
      rintro e wx ⟨rfl, Bx⟩
      replace hS := hS.call Bx
      clear Bx
      refine hK.out _ _ (hS.b) (fun hHeldN => ?_)
      clear hHeld hK K
      have hHeld := hHeldN
      clear hHeldN
      try simp only [Act.put, List.setIfInBounds_toArray, List.set_cons_zero, List.set_cons_succ]
      refine held_readies3 (i0 := 5) (i1 := 6) (i2 := 7) rfl rfl rfl (by kernel_rfl) (fun K hK => ?_) (fun K hK => ?_) (fun K hK => ?_)
      ·
        go_simp
        refine (back_any hS.C hW.out x bx.out).mono ?_
        rintro e wx ⟨rfl, Bx⟩
        replace hS := hS.call Bx
        clear Bx
        refine hK.out _ _ (hS.b) (fun hHeldN => ?_)
        clear hHeld hK K
        have hHeld := hHeldN
        clear hHeldN
        try simp only [Act.put, List.setIfInBounds_toArray, List.set_cons_zero, List.set_cons_succ]
        refine held_readies2 (i0 := 6) (i1 := 7) rfl rfl (by kernel_rfl) (fun K hK => ?_) (fun K hK => ?_)
        ·
          replace hS := Lib.hid hS
          go_simp
          replace hS := hS.out
          replace hS := hS.allocX
          refine hK.out _ _ (hS.b) (fun hHeldN => ?_)
          clear hHeld hK K
          have hHeld := hHeldN
          clear hHeldN
          try simp only [Act.put, List.setIfInBounds_toArray, List.set_cons_zero, List.set_cons_succ]
          refine held_ready (i := 7) rfl (by kernel_rfl) (fun K hK => ?_)
          replace hS := Lib.hid hS
          go_simp
          replace hS := hS.out
          replace hS := hS.allocY
          refine hK.out _ _ (hS.b) (fun hHeldN => ?_)
          clear hHeld hK K
          have hHeld := hHeldN
          clear hHeldN
          try simp only [Act.put, List.setIfInBounds_toArray, List.set_cons_zero, List.set_cons_succ]
          have zx := hS.x _ rfl
          have zy := hS.y _ rfl
          have ap := hS.ap _ _ rfl rfl
          try simp only [size_alloc5, size_drew5] at zx
          try simp only [size_alloc5, size_drew5] at zy
          try simp only [size_alloc5, size_drew5] at ap
          try simp only [size_alloc5, size_drew5] at hS
          have hb5 := hS.b
          refine held_ready (i := 8) rfl (by kernel_rfl) (fun K hK => ?_)
          rw [if_pos (by rfl)]
          refine wp_store_s 24 (.tmp 7) (.tmp 19) rfl _ (tab (turnF W x)) rfl rfl 24 _ zx.1 (info16 _) (zero_size _) ?_
          intro w6 R6 U6
          have hb6 := hb5.other (U6.out.block _ hb5.lt (fun e => by have := zx.2; omega))
          have zy6 := zy.1.other (U6.out.block _ zy.1.lt (fun e => ap e.symm))
          refine hK.out _ _ (hb6) (fun hHeldN => ?_)
          clear hHeld hK K
          have hHeld := hHeldN
          clear hHeldN
          try simp only [Act.put, List.setIfInBounds_toArray, List.set_cons_zero, List.set_cons_succ]
          refine held_ready (i := 9) rfl (by kernel_rfl) (fun K hK => ?_)
          rw [if_pos (by rfl)]
          refine wp_store_s 24 (.tmp 8) (.tmp 22) rfl _ (tab (backF W x)) rfl rfl 24 _ zy6 (info16 _) (zero_size _) ?_
          intro w7 R7 U7
          have hb7 := hb6.other (U7.out.block _ hb6.lt (fun e => by have := zy.2; omega))
          have T7 := hS.stores R6.out U6.out R7.out U7.out
          refine hK.out _ _ (hb7) (fun hHeldN => ?_)
          clear hHeld hK K
          have hHeld := hHeldN
          clear hHeldN
          try simp only [Act.put, List.setIfInBounds_toArray, List.set_cons_zero, List.set_cons_succ]
          refine wpAnyH_done (by kernel_rfl) ?_ _
          clear hHeld
          clear hS zx zy ap hb5 hb6 zy6 R6 U6 R7 U7 hb7
          replace T7 := Lib.hid T7
          go_wp2_with fail
          go_meet
          exact ⟨_, _, rfl, rfl, T7.out⟩
        ·
          replace hS := Lib.hid hS
          go_simp
          replace hS := hS.out
          replace hS := hS.allocY
          refine hK.out _ _ (hS.b) (fun hHeldN => ?_)
          clear hHeld hK K
          have hHeld := hHeldN
          clear hHeldN
          try simp only [Act.put, List.setIfInBounds_toArray, List.set_cons_zero, List.set_cons_succ]
          refine held_ready (i := 6) rfl (by kernel_rfl) (fun K hK => ?_)
          replace hS := Lib.hid hS
          go_simp
          replace hS := hS.out
          replace hS := hS.allocX
          refine hK.out _ _ (hS.b) (fun hHeldN => ?_)
          clear hHeld hK K
          have hHeld := hHeldN
          clear hHeldN
          try simp only [Act.put, List.setIfInBounds_toArray, List.set_cons_zero, List.set_cons_succ]
          have zx := hS.x _ rfl
          have zy := hS.y _ rfl
          have ap := hS.ap _ _ rfl rfl
          try simp only [size_alloc5, size_drew5] at zx
          try simp only [size_alloc5, size_drew5] at zy
          try simp only [size_alloc5, size_drew5] at ap
          try simp only [size_alloc5, size_drew5] at hS
          have hb5 := hS.b
          refine held_ready (i := 8) rfl (by kernel_rfl) (fun K hK => ?_)
          rw [if_pos (by rfl)]
          refine wp_store_s 24 (.tmp 7) (.tmp 19) rfl _ (tab (turnF W x)) rfl rfl 24 _ zx.1 (info16 _) (zero_size _) ?_
          intro w6 R6 U6
          have hb6 := hb5.other (U6.out.block _ hb5.lt (fun e => by have := zx.2; omega))
          have zy6 := zy.1.other (U6.out.block _ zy.1.lt (fun e => ap e.symm))
          refine hK.out _ _ (hb6) (fun hHeldN => ?_)
          clear hHeld hK K
          have hHeld := hHeldN
          clear hHeldN
          try simp only [Act.put, List.setIfInBounds_toArray, List.set_cons_zero, List.set_cons_succ]
          refine held_ready (i := 9) rfl (by kernel_rfl) (fun K hK => ?_)
          rw [if_pos (by rfl)]
          refine wp_store_s 24 (.tmp 8) (.tmp 22) rfl _ (tab (backF W x)) rfl rfl 24 _ zy6 (info16 _) (zero_size _) ?_
          intro w7 R7 U7
          have hb7 := hb6.other (U7.out.block _ hb6.lt (fun e => by have := zy.2; omega))
          have T7 := hS.stores R6.out U6.out R7.out U7.out
          refine hK.out _ _ (hb7) (fun hHeldN => ?_)
          clear hHeld hK K
          have hHeld := hHeldN
          clear hHeldN
          try simp only [Act.put, List.setIfInBounds_toArray, List.set_cons_zero, List.set_cons_succ]
          refine wpAnyH_done (by kernel_rfl) ?_ _
          clear hHeld
          clear hS zx zy ap hb5 hb6 zy6 R6 U6 R7 U7 hb7
          replace T7 := Lib.hid T7
          go_wp2_with fail
          go_meet
          exact ⟨_, _, rfl, rfl, T7.out⟩
      ·
        replace hS := Lib.hid hS
        go_simp
        replace hS := hS.out
        replace hS := hS.allocX
        refine hK.out _ _ (hS.b) (fun hHeldN => ?_)
        clear hHeld hK K
        have hHeld := hHeldN
        clear hHeldN
        try simp only [Act.put, List.setIfInBounds_toArray, List.set_cons_zero, List.set_cons_succ]
        refine held_readies2 (i0 := 5) (i1 := 7) rfl rfl (by kernel_rfl) (fun K hK => ?_) (fun K hK => ?_)
        ·
          go_simp
          refine (back_any hS.C hW.out x bx.out).mono ?_
          rintro e wx ⟨rfl, Bx⟩
          replace hS := hS.call Bx
          clear Bx
          refine hK.out _ _ (hS.b) (fun hHeldN => ?_)
          clear hHeld hK K
          have hHeld := hHeldN
          clear hHeldN
          try simp only [Act.put, List.setIfInBounds_toArray, List.set_cons_zero, List.set_cons_succ]
          refine held_ready (i := 7) rfl (by kernel_rfl) (fun K hK => ?_)
          replace hS := Lib.hid hS
          go_simp
          replace hS := hS.out
          replace hS := hS.allocY
          refine hK.out _ _ (hS.b) (fun hHeldN => ?_)
          clear hHeld hK K
          have hHeld := hHeldN
          clear hHeldN
          try simp only [Act.put, List.setIfInBounds_toArray, List.set_cons_zero, List.set_cons_succ]
          have zx := hS.x _ rfl
          have zy := hS.y _ rfl
          have ap := hS.ap _ _ rfl rfl
          try simp only [size_alloc5, size_drew5] at zx
          try simp only [size_alloc5, size_drew5] at zy
          try simp only [size_alloc5, size_drew5] at ap
          try simp only [size_alloc5, size_drew5] at hS
          have hb5 := hS.b
          refine held_ready (i := 8) rfl (by kernel_rfl) (fun K hK => ?_)
          rw [if_pos (by rfl)]
          refine wp_store_s 24 (.tmp 7) (.tmp 19) rfl _ (tab (turnF W x)) rfl rfl 24 _ zx.1 (info16 _) (zero_size _) ?_
          intro w6 R6 U6
          have hb6 := hb5.other (U6.out.block _ hb5.lt (fun e => by have := zx.2; omega))
          have zy6 := zy.1.other (U6.out.block _ zy.1.lt (fun e => ap e.symm))
          refine hK.out _ _ (hb6) (fun hHeldN => ?_)
          clear hHeld hK K
          have hHeld := hHeldN
          clear hHeldN
          try simp only [Act.put, List.setIfInBounds_toArray, List.set_cons_zero, List.set_cons_succ]
          refine held_ready (i := 9) rfl (by kernel_rfl) (fun K hK => ?_)
          rw [if_pos (by rfl)]
          refine wp_store_s 24 (.tmp 8) (.tmp 22) rfl _ (tab (backF W x)) rfl rfl 24 _ zy6 (info16 _) (zero_size _) ?_
          intro w7 R7 U7
          have hb7 := hb6.other (U7.out.block _ hb6.lt (fun e => by have := zy.2; omega))
          have T7 := hS.stores R6.out U6.out R7.out U7.out
          refine hK.out _ _ (hb7) (fun hHeldN => ?_)
          clear hHeld hK K
          have hHeld := hHeldN
          clear hHeldN
          try simp only [Act.put, List.setIfInBounds_toArray, List.set_cons_zero, List.set_cons_succ]
          refine wpAnyH_done (by kernel_rfl) ?_ _
          clear hHeld
          clear hS zx zy ap hb5 hb6 zy6 R6 U6 R7 U7 hb7
          replace T7 := Lib.hid T7
          go_wp2_with fail
          go_meet
          exact ⟨_, _, rfl, rfl, T7.out⟩
        ·
          replace hS := Lib.hid hS
          go_simp
          replace hS := hS.out
          replace hS := hS.allocY
          refine hK.out _ _ (hS.b) (fun hHeldN => ?_)
          clear hHeld hK K
          have hHeld := hHeldN
          clear hHeldN
          try simp only [Act.put, List.setIfInBounds_toArray, List.set_cons_zero, List.set_cons_succ]
          refine held_ready (i := 5) rfl (by kernel_rfl) (fun K hK => ?_)
          go_simp
          refine (back_any hS.C hW.out x bx.out).mono ?_
          rintro e wx ⟨rfl, Bx⟩
          replace hS := hS.call Bx
          clear Bx
          refine hK.out _ _ (hS.b) (fun hHeldN => ?_)
          clear hHeld hK K
          have hHeld := hHeldN
          clear hHeldN
          try simp only [Act.put, List.setIfInBounds_toArray, List.set_cons_zero, List.set_cons_succ]
          have zx := hS.x _ rfl
          have zy := hS.y _ rfl
          have ap := hS.ap _ _ rfl rfl
          try simp only [size_alloc5, size_drew5] at zx
          try simp only [size_alloc5, size_drew5] at zy
          try simp only [size_alloc5, size_drew5] at ap
          try simp only [size_alloc5, size_drew5] at hS
          have hb5 := hS.b
          refine held_ready (i := 8) rfl (by kernel_rfl) (fun K hK => ?_)
          rw [if_pos (by rfl)]
          refine wp_store_s 24 (.tmp 7) (.tmp 19) rfl _ (tab (turnF W x)) rfl rfl 24 _ zx.1 (info16 _) (zero_size _) ?_
          intro w6 R6 U6
          have hb6 := hb5.other (U6.out.block _ hb5.lt (fun e => by have := zx.2; omega))
          have zy6 := zy.1.other (U6.out.block _ zy.1.lt (fun e => ap e.symm))
          refine hK.out _ _ (hb6) (fun hHeldN => ?_)
          clear hHeld hK K
          have hHeld := hHeldN
          clear hHeldN
          try simp only [Act.put, List.setIfInBounds_toArray, List.set_cons_zero, List.set_cons_succ]
          refine held_ready (i := 9) rfl (by kernel_rfl) (fun K hK => ?_)
          rw [if_pos (by rfl)]
          refine wp_store_s 24 (.tmp 8) (.tmp 22) rfl _ (tab (backF W x)) rfl rfl 24 _ zy6 (info16 _) (zero_size _) ?_
          intro w7 R7 U7
          have hb7 := hb6.other (U7.out.block _ hb6.lt (fun e => by have := zy.2; omega))
          have T7 := hS.stores R6.out U6.out R7.out U7.out
          refine hK.out _ _ (hb7) (fun hHeldN => ?_)
          clear hHeld hK K
          have hHeld := hHeldN
          clear hHeldN
          try simp only [Act.put, List.setIfInBounds_toArray, List.set_cons_zero, List.set_cons_succ]
          refine wpAnyH_done (by kernel_rfl) ?_ _
          clear hHeld
          clear hS zx zy ap hb5 hb6 zy6 R6 U6 R7 U7 hb7
          replace T7 := Lib.hid T7
          go_wp2_with fail
          go_meet
          exact ⟨_, _, rfl, rfl, T7.out⟩
      ·
        replace hS := Lib.hid hS
        go_simp
        replace hS := hS.out
        replace hS := hS.allocY
        refine hK.out _ _ (hS.b) (fun hHeldN => ?_)
        clear hHeld hK K
        have hHeld := hHeldN
        clear hHeldN
        try simp only [Act.put, List.setIfInBounds_toArray, List.set_cons_zero, List.set_cons_succ]
        refine held_readies2 (i0 := 5) (i1 := 6) rfl rfl (by kernel_rfl) (fun K hK => ?_) (fun K hK => ?_)
        ·
          go_simp
          refine (back_any hS.C hW.out x bx.out).mono ?_
          rintro e wx ⟨rfl, Bx⟩
          replace hS := hS.call Bx
          clear Bx
          refine hK.out _ _ (hS.b) (fun hHeldN => ?_)
          clear hHeld hK K
          have hHeld := hHeldN
          clear hHeldN
          try simp only [Act.put, List.setIfInBounds_toArray, List.set_cons_zero, List.set_cons_succ]
          refine held_ready (i := 6) rfl (by kernel_rfl) (fun K hK => ?_)
          replace hS := Lib.hid hS
          go_simp
          replace hS := hS.out
          replace hS := hS.allocX
          refine hK.out _ _ (hS.b) (fun hHeldN => ?_)
          clear hHeld hK K
          have hHeld := hHeldN
          clear hHeldN
          try simp only [Act.put, List.setIfInBounds_toArray, List.set_cons_zero, List.set_cons_succ]
          have zx := hS.x _ rfl
          have zy := hS.y _ rfl
          have ap := hS.ap _ _ rfl rfl
          try simp only [size_alloc5, size_drew5] at zx
          try simp only [size_alloc5, size_drew5] at zy
          try simp only [size_alloc5, size_drew5] at ap
          try simp only [size_alloc5, size_drew5] at hS
          have hb5 := hS.b
          refine held_ready (i := 8) rfl (by kernel_rfl) (fun K hK => ?_)
          rw [if_pos (by rfl)]
          refine wp_store_s 24 (.tmp 7) (.tmp 19) rfl _ (tab (turnF W x)) rfl rfl 24 _ zx.1 (info16 _) (zero_size _) ?_
          intro w6 R6 U6
          have hb6 := hb5.other (U6.out.block _ hb5.lt (fun e => by have := zx.2; omega))
          have zy6 := zy.1.other (U6.out.block _ zy.1.lt (fun e => ap e.symm))
          refine hK.out _ _ (hb6) (fun hHeldN => ?_)
          clear hHeld hK K
          have hHeld := hHeldN
          clear hHeldN
          try simp only [Act.put, List.setIfInBounds_toArray, List.set_cons_zero, List.set_cons_succ]
          refine held_ready (i := 9) rfl (by kernel_rfl) (fun K hK => ?_)
          rw [if_pos (by rfl)]
          refine wp_store_s 24 (.tmp 8) (.tmp 22) rfl _ (tab (backF W x)) rfl rfl 24 _ zy6 (info16 _) (zero_size _) ?_
          intro w7 R7 U7
          have hb7 := hb6.other (U7.out.block _ hb6.lt (fun e => by have := zy.2; omega))
          have T7 := hS.stores R6.out U6.out R7.out U7.out
          refine hK.out _ _ (hb7) (fun hHeldN => ?_)
          clear hHeld hK K
          have hHeld := hHeldN
          clear hHeldN
          try simp only [Act.put, List.setIfInBounds_toArray, List.set_cons_zero, List.set_cons_succ]
          refine wpAnyH_done (by kernel_rfl) ?_ _
          clear hHeld
          clear hS zx zy ap hb5 hb6 zy6 R6 U6 R7 U7 hb7
          replace T7 := Lib.hid T7
          go_wp2_with fail
          go_meet
          exact ⟨_, _, rfl, rfl, T7.out⟩
        ·
          replace hS := Lib.hid hS
          go_simp
          replace hS := hS.out
          replace hS := hS.allocX
          refine hK.out _ _ (hS.b) (fun hHeldN => ?_)
          clear hHeld hK K
          have hHeld := hHeldN
          clear hHeldN
          try simp only [Act.put, List.setIfInBounds_toArray, List.set_cons_zero, List.set_cons_succ]
          refine held_ready (i := 5) rfl (by kernel_rfl) (fun K hK => ?_)
          go_simp
          refine (back_any hS.C hW.out x bx.out).mono ?_
          rintro e wx ⟨rfl, Bx⟩
          replace hS := hS.call Bx
          clear Bx
          refine hK.out _ _ (hS.b) (fun hHeldN => ?_)
          clear hHeld hK K
          have hHeld := hHeldN
          clear hHeldN
          try simp only [Act.put, List.setIfInBounds_toArray, List.set_cons_zero, List.set_cons_succ]
          have zx := hS.x _ rfl
          have zy := hS.y _ rfl
          have ap := hS.ap _ _ rfl rfl
          try simp only [size_alloc5, size_drew5] at zx
          try simp only [size_alloc5, size_drew5] at zy
          try simp only [size_alloc5, size_drew5] at ap
          try simp only [size_alloc5, size_drew5] at hS
          have hb5 := hS.b
          refine held_ready (i := 8) rfl (by kernel_rfl) (fun K hK => ?_)
          rw [if_pos (by rfl)]
          refine wp_store_s 24 (.tmp 7) (.tmp 19) rfl _ (tab (turnF W x)) rfl rfl 24 _ zx.1 (info16 _) (zero_size _) ?_
          intro w6 R6 U6
          have hb6 := hb5.other (U6.out.block _ hb5.lt (fun e => by have := zx.2; omega))
          have zy6 := zy.1.other (U6.out.block _ zy.1.lt (fun e => ap e.symm))
          refine hK.out _ _ (hb6) (fun hHeldN => ?_)
          clear hHeld hK K
          have hHeld := hHeldN
          clear hHeldN
          try simp only [Act.put, List.setIfInBounds_toArray, List.set_cons_zero, List.set_cons_succ]
          refine held_ready (i := 9) rfl (by kernel_rfl) (fun K hK => ?_)
          rw [if_pos (by rfl)]
          refine wp_store_s 24 (.tmp 8) (.tmp 22) rfl _ (tab (backF W x)) rfl rfl 24 _ zy6 (info16 _) (zero_size _) ?_
          intro w7 R7 U7
          have hb7 := hb6.other (U7.out.block _ hb6.lt (fun e => by have := zy.2; omega))
          have T7 := hS.stores R6.out U6.out R7.out U7.out
          refine hK.out _ _ (hb7) (fun hHeldN => ?_)
          clear hHeld hK K
          have hHeld := hHeldN
          clear hHeldN
          try simp only [Act.put, List.setIfInBounds_toArray, List.set_cons_zero, List.set_cons_succ]
          refine wpAnyH_done (by kernel_rfl) ?_ _
          clear hHeld
          clear hS zx zy ap hb5 hb6 zy6 R6 U6 R7 U7 hb7
          replace T7 := Lib.hid T7
          go_wp2_with fail
          go_meet
          exact ⟨_, _, rfl, rfl, T7.out⟩
    ·
      replace hS := Lib.hid hS
      go_simp
      replace hS := hS.out
      replace hS := hS.allocX
      refine hK.out _ _ (hS.b) (fun hHeldN => ?_)
      clear hHeld hK K
      have hHeld := hHeldN
      clear hHeldN
      try simp only [Act.put, List.setIfInBounds_toArray, List.set_cons_zero, List.set_cons_succ]
      refine held_readies2 (i0 := 2) (i1 := 7) rfl rfl (by kernel_rfl) (fun K hK => ?_) (fun K hK => ?_)
      ·
        go_simp
        refine (turn_any hS.C hW.out x bx.out).mono ?_
        rintro e wx ⟨rfl, Bx⟩
        replace hS := hS.call Bx
        clear Bx
        refine hK.out _ _ (hS.b) (fun hHeldN => ?_)
        clear hHeld hK K
        have hHeld := hHeldN
        clear hHeldN
        try simp only [Act.put, List.setIfInBounds_toArray, List.set_cons_zero, List.set_cons_succ]
        refine held_readies2 (i0 := 5) (i1 := 7) rfl rfl (by kernel_rfl) (fun K hK => ?_) (fun K hK => ?_)
        ·
          go_simp
          refine (back_any hS.C hW.out x bx.out).mono ?_
          rintro e wx ⟨rfl, Bx⟩
          replace hS := hS.call Bx
          clear Bx
          refine hK.out _ _ (hS.b) (fun hHeldN => ?_)
          clear hHeld hK K
          have hHeld := hHeldN
          clear hHeldN
          try simp only [Act.put, List.setIfInBounds_toArray, List.set_cons_zero, List.set_cons_succ]
          refine held_ready (i := 7) rfl (by kernel_rfl) (fun K hK => ?_)
          replace hS := Lib.hid hS
          go_simp
          replace hS := hS.out
          replace hS := hS.allocY
          refine hK.out _ _ (hS.b) (fun hHeldN => ?_)
          clear hHeld hK K
          have hHeld := hHeldN
          clear hHeldN
          try simp only [Act.put, List.setIfInBounds_toArray, List.set_cons_zero, List.set_cons_succ]
          have zx := hS.x _ rfl
          have zy := hS.y _ rfl
          have ap := hS.ap _ _ rfl rfl
          try simp only [size_alloc5, size_drew5] at zx
          try simp only [size_alloc5, size_drew5] at zy
          try simp only [size_alloc5, size_drew5] at ap
          try simp only [size_alloc5, size_drew5] at hS
          have hb5 := hS.b
          refine held_ready (i := 8) rfl (by kernel_rfl) (fun K hK => ?_)
          rw [if_pos (by rfl)]
          refine wp_store_s 24 (.tmp 7) (.tmp 19) rfl _ (tab (turnF W x)) rfl rfl 24 _ zx.1 (info16 _) (zero_size _) ?_
          intro w6 R6 U6
          have hb6 := hb5.other (U6.out.block _ hb5.lt (fun e => by have := zx.2; omega))
          have zy6 := zy.1.other (U6.out.block _ zy.1.lt (fun e => ap e.symm))
          refine hK.out _ _ (hb6) (fun hHeldN => ?_)
          clear hHeld hK K
          have hHeld := hHeldN
          clear hHeldN
          try simp only [Act.put, List.setIfInBounds_toArray, List.set_cons_zero, List.set_cons_succ]
          refine held_ready (i := 9) rfl (by kernel_rfl) (fun K hK => ?_)
          rw [if_pos (by rfl)]
          refine wp_store_s 24 (.tmp 8) (.tmp 22) rfl _ (tab (backF W x)) rfl rfl 24 _ zy6 (info16 _) (zero_size _) ?_
          intro w7 R7 U7
          have hb7 := hb6.other (U7.out.block _ hb6.lt (fun e => by have := zy.2; omega))
          have T7 := hS.stores R6.out U6.out R7.out U7.out
          refine hK.out _ _ (hb7) (fun hHeldN => ?_)
          clear hHeld hK K
          have hHeld := hHeldN
          clear hHeldN
          try simp only [Act.put, List.setIfInBounds_toArray, List.set_cons_zero, List.set_cons_succ]
          refine wpAnyH_done (by kernel_rfl) ?_ _
          clear hHeld
          clear hS zx zy ap hb5 hb6 zy6 R6 U6 R7 U7 hb7
          replace T7 := Lib.hid T7
          go_wp2_with fail
          go_meet
          exact ⟨_, _, rfl, rfl, T7.out⟩
        ·
          replace hS := Lib.hid hS
          go_simp
          replace hS := hS.out
          replace hS := hS.allocY
          refine hK.out _ _ (hS.b) (fun hHeldN => ?_)
          clear hHeld hK K
          have hHeld := hHeldN
          clear hHeldN
          try simp only [Act.put, List.setIfInBounds_toArray, List.set_cons_zero, List.set_cons_succ]
          refine held_ready (i := 5) rfl (by kernel_rfl) (fun K hK => ?_)
          go_simp
          refine (back_any hS.C hW.out x bx.out).mono ?_
          rintro e wx ⟨rfl, Bx⟩
          replace hS := hS.call Bx
          clear Bx
          refine hK.out _ _ (hS.b) (fun hHeldN => ?_)
          clear hHeld hK K
          have hHeld := hHeldN
          clear hHeldN
          try simp only [Act.put, List.setIfInBounds_toArray, List.set_cons_zero, List.set_cons_succ]
          have zx := hS.x _ rfl
          have zy := hS.y _ rfl
          have ap := hS.ap _ _ rfl rfl
          try simp only [size_alloc5, size_drew5] at zx
          try simp only [size_alloc5, size_drew5] at zy
          try simp only [size_alloc5, size_drew5] at ap
          try simp only [size_alloc5, size_drew5] at hS
          have hb5 := hS.b
          refine held_ready (i := 8) rfl (by kernel_rfl) (fun K hK => ?_)
          rw [if_pos (by rfl)]
          refine wp_store_s 24 (.tmp 7) (.tmp 19) rfl _ (tab (turnF W x)) rfl rfl 24 _ zx.1 (info16 _) (zero_size _) ?_
          intro w6 R6 U6
          have hb6 := hb5.other (U6.out.block _ hb5.lt (fun e => by have := zx.2; omega))
          have zy6 := zy.1.other (U6.out.block _ zy.1.lt (fun e => ap e.symm))
          refine hK.out _ _ (hb6) (fun hHeldN => ?_)
          clear hHeld hK K
          have hHeld := hHeldN
          clear hHeldN
          try simp only [Act.put, List.setIfInBounds_toArray, List.set_cons_zero, List.set_cons_succ]
          refine held_ready (i := 9) rfl (by kernel_rfl) (fun K hK => ?_)
          rw [if_pos (by rfl)]
          refine wp_store_s 24 (.tmp 8) (.tmp 22) rfl _ (tab (backF W x)) rfl rfl 24 _ zy6 (info16 _) (zero_size _) ?_
          intro w7 R7 U7
          have hb7 := hb6.other (U7.out.block _ hb6.lt (fun e => by have := zy.2; omega))
          have T7 := hS.stores R6.out U6.out R7.out U7.out
          refine hK.out _ _ (hb7) (fun hHeldN => ?_)
          clear hHeld hK K
          have hHeld := hHeldN
          clear hHeldN
          try simp only [Act.put, List.setIfInBounds_toArray, List.set_cons_zero, List.set_cons_succ]
          refine wpAnyH_done (by kernel_rfl) ?_ _
          clear hHeld
          clear hS zx zy ap hb5 hb6 zy6 R6 U6 R7 U7 hb7
          replace T7 := Lib.hid T7
          go_wp2_with fail
          go_meet
          exact ⟨_, _, rfl, rfl, T7.out⟩
      ·
        replace hS := Lib.hid hS
        go_simp
        replace hS := hS.out
        replace hS := hS.allocY
        refine hK.out _ _ (hS.b) (fun hHeldN => ?_)
        clear hHeld hK K
        have hHeld := hHeldN
        clear hHeldN
        try simp only [Act.put, List.setIfInBounds_toArray, List.set_cons_zero, List.set_cons_succ]
        refine held_ready (i := 2) rfl (by kernel_rfl) (fun K hK => ?_)
        go_simp
        refine (turn_any hS.C hW.out x bx.out).mono ?_
        rintro e wx ⟨rfl, Bx⟩
        replace hS := hS.call Bx
        clear Bx
        refine hK.out _ _ (hS.b) (fun hHeldN => ?_)
        clear hHeld hK K
        have hHeld := hHeldN
        clear hHeldN
        try simp only [Act.put, List.setIfInBounds_toArray, List.set_cons_zero, List.set_cons_succ]
        refine held_ready (i := 5) rfl (by kernel_rfl) (fun K hK => ?_)
        go_simp
        refine (back_any hS.C hW.out x bx.out).mono ?_
        rintro e wx ⟨rfl, Bx⟩
        replace hS := hS.call Bx
        clear Bx
        refine hK.out _ _ (hS.b) (fun hHeldN => ?_)
        clear hHeld hK K
        have hHeld := hHeldN
        clear hHeldN
        try simp only [Act.put, List.setIfInBounds_toArray, List.set_cons_zero, List.set_cons_succ]
        have zx := hS.x _ rfl
        have zy := hS.y _ rfl
        have ap := hS.ap _ _ rfl rfl
        try simp only [size_alloc5, size_drew5] at zx
        try simp only [size_alloc5, size_drew5] at zy
        try simp only [size_alloc5, size_drew5] at ap
        try simp only [size_alloc5, size_drew5] at hS
        have hb5 := hS.b
        refine held_ready (i := 8) rfl (by kernel_rfl) (fun K hK => ?_)
        rw [if_pos (by rfl)]
        refine wp_store_s 24 (.tmp 7) (.tmp 19) rfl _ (tab (turnF W x)) rfl rfl 24 _ zx.1 (info16 _) (zero_size _) ?_
        intro w6 R6 U6
        have hb6 := hb5.other (U6.out.block _ hb5.lt (fun e => by have := zx.2; omega))
        have zy6 := zy.1.other (U6.out.block _ zy.1.lt (fun e => ap e.symm))
        refine hK.out _ _ (hb6) (fun hHeldN => ?_)
        clear hHeld hK K
        have hHeld := hHeldN
        clear hHeldN
        try simp only [Act.put, List.setIfInBounds_toArray, List.set_cons_zero, List.set_cons_succ]
        refine held_ready (i := 9) rfl (by kernel_rfl) (fun K hK => ?_)
        rw [if_pos (by rfl)]
        refine wp_store_s 24 (.tmp 8) (.tmp 22) rfl _ (tab (backF W x)) rfl rfl 24 _ zy6 (info16 _) (zero_size _) ?_
        intro w7 R7 U7
        have hb7 := hb6.other (U7.out.block _ hb6.lt (fun e => by have := zy.2; omega))
        have T7 := hS.stores R6.out U6.out R7.out U7.out
        refine hK.out _ _ (hb7) (fun hHeldN => ?_)
        clear hHeld hK K
        have hHeld := hHeldN
        clear hHeldN
        try simp only [Act.put, List.setIfInBounds_toArray, List.set_cons_zero, List.set_cons_succ]
        refine wpAnyH_done (by kernel_rfl) ?_ _
        clear hHeld
        clear hS zx zy ap hb5 hb6 zy6 R6 U6 R7 U7 hb7
        replace T7 := Lib.hid T7
        go_wp2_with fail
        go_meet
        exact ⟨_, _, rfl, rfl, T7.out⟩
    ·
      replace hS := Lib.hid hS
      go_simp
      replace hS := hS.out
      replace hS := hS.allocY
      refine hK.out _ _ (hS.b) (fun hHeldN => ?_)
      clear hHeld hK K
      have hHeld := hHeldN
      clear hHeldN
      try simp only [Act.put, List.setIfInBounds_toArray, List.set_cons_zero, List.set_cons_succ]
      refine held_readies2 (i0 := 2) (i1 := 6) rfl rfl (by kernel_rfl) (fun K hK => ?_) (fun K hK => ?_)
      ·
        go_simp
        refine (turn_any hS.C hW.out x bx.out).mono ?_
        rintro e wx ⟨rfl, Bx⟩
        replace hS := hS.call Bx
        clear Bx
        refine hK.out _ _ (hS.b) (fun hHeldN => ?_)
        clear hHeld hK K
        have hHeld := hHeldN
        clear hHeldN
        try simp only [Act.put, List.setIfInBounds_toArray, List.set_cons_zero, List.set_cons_succ]
        refine held_readies2 (i0 := 5) (i1 := 6) rfl rfl (by kernel_rfl) (fun K hK => ?_) (fun K hK => ?_)
        ·
          go_simp
          refine (back_any hS.C hW.out x bx.out).mono ?_
          rintro e wx ⟨rfl, Bx⟩
          replace hS := hS.call Bx
          clear Bx
          refine hK.out _ _ (hS.b) (fun hHeldN => ?_)
          clear hHeld hK K
          have hHeld := hHeldN
          clear hHeldN
          try simp only [Act.put, List.setIfInBounds_toArray, List.set_cons_zero, List.set_cons_succ]
          refine held_ready (i := 6) rfl (by kernel_rfl) (fun K hK => ?_)
          replace hS := Lib.hid hS
          go_simp
          replace hS := hS.out
          replace hS := hS.allocX
          refine hK.out _ _ (hS.b) (fun hHeldN => ?_)
          clear hHeld hK K
          have hHeld := hHeldN
          clear hHeldN
          try simp only [Act.put, List.setIfInBounds_toArray, List.set_cons_zero, List.set_cons_succ]
          have zx := hS.x _ rfl
          have zy := hS.y _ rfl
          have ap := hS.ap _ _ rfl rfl
          try simp only [size_alloc5, size_drew5] at zx
          try simp only [size_alloc5, size_drew5] at zy
          try simp only [size_alloc5, size_drew5] at ap
          try simp only [size_alloc5, size_drew5] at hS
          have hb5 := hS.b
          refine held_ready (i := 8) rfl (by kernel_rfl) (fun K hK => ?_)
          rw [if_pos (by rfl)]
          refine wp_store_s 24 (.tmp 7) (.tmp 19) rfl _ (tab (turnF W x)) rfl rfl 24 _ zx.1 (info16 _) (zero_size _) ?_
          intro w6 R6 U6
          have hb6 := hb5.other (U6.out.block _ hb5.lt (fun e => by have := zx.2; omega))
          have zy6 := zy.1.other (U6.out.block _ zy.1.lt (fun e => ap e.symm))
          refine hK.out _ _ (hb6) (fun hHeldN => ?_)
          clear hHeld hK K
          have hHeld := hHeldN
          clear hHeldN
          try simp only [Act.put, List.setIfInBounds_toArray, List.set_cons_zero, List.set_cons_succ]
          refine held_ready (i := 9) rfl (by kernel_rfl) (fun K hK => ?_)
          rw [if_pos (by rfl)]
          refine wp_store_s 24 (.tmp 8) (.tmp 22) rfl _ (tab (backF W x)) rfl rfl 24 _ zy6 (info16 _) (zero_size _) ?_
          intro w7 R7 U7
          have hb7 := hb6.other (U7.out.block _ hb6.lt (fun e => by have := zy.2; omega))
          have T7 := hS.stores R6.out U6.out R7.out U7.out
          refine hK.out _ _ (hb7) (fun hHeldN => ?_)
          clear hHeld hK K
          have hHeld := hHeldN
          clear hHeldN
          try simp only [Act.put, List.setIfInBounds_toArray, List.set_cons_zero, List.set_cons_succ]
          refine wpAnyH_done (by kernel_rfl) ?_ _
          clear hHeld
          clear hS zx zy ap hb5 hb6 zy6 R6 U6 R7 U7 hb7
          replace T7 := Lib.hid T7
          go_wp2_with fail
          go_meet
          exact ⟨_, _, rfl, rfl, T7.out⟩
        ·
          replace hS := Lib.hid hS
          go_simp
          replace hS := hS.out
          replace hS := hS.allocX
          refine hK.out _ _ (hS.b) (fun hHeldN => ?_)
          clear hHeld hK K
          have hHeld := hHeldN
          clear hHeldN
          try simp only [Act.put, List.setIfInBounds_toArray, List.set_cons_zero, List.set_cons_succ]
          refine held_ready (i := 5) rfl (by kernel_rfl) (fun K hK => ?_)
          go_simp
          refine (back_any hS.C hW.out x bx.out).mono ?_
          rintro e wx ⟨rfl, Bx⟩
          replace hS := hS.call Bx
          clear Bx
          refine hK.out _ _ (hS.b) (fun hHeldN => ?_)
          clear hHeld hK K
          have hHeld := hHeldN
          clear hHeldN
          try simp only [Act.put, List.setIfInBounds_toArray, List.set_cons_zero, List.set_cons_succ]
          have zx := hS.x _ rfl
          have zy := hS.y _ rfl
          have ap := hS.ap _ _ rfl rfl
          try simp only [size_alloc5, size_drew5] at zx
          try simp only [size_alloc5, size_drew5] at zy
          try simp only [size_alloc5, size_drew5] at ap
          try simp only [size_alloc5, size_drew5] at hS
          have hb5 := hS.b
          refine held_ready (i := 8) rfl (by kernel_rfl) (fun K hK => ?_)
          rw [if_pos (by rfl)]
          refine wp_store_s 24 (.tmp 7) (.tmp 19) rfl _ (tab (turnF W x)) rfl rfl 24 _ zx.1 (info16 _) (zero_size _) ?_
          intro w6 R6 U6
          have hb6 := hb5.other (U6.out.block _ hb5.lt (fun e => by have := zx.2; omega))
          have zy6 := zy.1.other (U6.out.block _ zy.1.lt (fun e => ap e.symm))
          refine hK.out _ _ (hb6) (fun hHeldN => ?_)
          clear hHeld hK K
          have hHeld := hHeldN
          clear hHeldN
          try simp only [Act.put, List.setIfInBounds_toArray, List.set_cons_zero, List.set_cons_succ]
          refine held_ready (i := 9) rfl (by kernel_rfl) (fun K hK => ?_)
          rw [if_pos (by rfl)]
          refine wp_store_s 24 (.tmp 8) (.tmp 22) rfl _ (tab (backF W x)) rfl rfl 24 _ zy6 (info16 _) (zero_size _) ?_
          intro w7 R7 U7
          have hb7 := hb6.other (U7.out.block _ hb6.lt (fun e => by have := zy.2; omega))
          have T7 := hS.stores R6.out U6.out R7.out U7.out
          refine hK.out _ _ (hb7) (fun hHeldN => ?_)
          clear hHeld hK K
          have hHeld := hHeldN
          clear hHeldN
          try simp only [Act.put, List.setIfInBounds_toArray, List.set_cons_zero, List.set_cons_succ]
          refine wpAnyH_done (by kernel_rfl) ?_ _
          clear hHeld
          clear hS zx zy ap hb5 hb6 zy6 R6 U6 R7 U7 hb7
          replace T7 := Lib.hid T7
          go_wp2_with fail
          go_meet
          exact ⟨_, _, rfl, rfl, T7.out⟩
      ·
        replace hS := Lib.hid hS
        go_simp
        replace hS := hS.out
        replace hS := hS.allocX
        refine hK.out _ _ (hS.b) (fun hHeldN => ?_)
        clear hHeld hK K
        have hHeld := hHeldN
        clear hHeldN
        try simp only [Act.put, List.setIfInBounds_toArray, List.set_cons_zero, List.set_cons_succ]
        refine held_ready (i := 2) rfl (by kernel_rfl) (fun K hK => ?_)
        go_simp
        refine (turn_any hS.C hW.out x bx.out).mono ?_
        rintro e wx ⟨rfl, Bx⟩
        replace hS := hS.call Bx
        clear Bx
        refine hK.out _ _ (hS.b) (fun hHeldN => ?_)
        clear hHeld hK K
        have hHeld := hHeldN
        clear hHeldN
        try simp only [Act.put, List.setIfInBounds_toArray, List.set_cons_zero, List.set_cons_succ]
        refine held_ready (i := 5) rfl (by kernel_rfl) (fun K hK => ?_)
        go_simp
        refine (back_any hS.C hW.out x bx.out).mono ?_
        rintro e wx ⟨rfl, Bx⟩
        replace hS := hS.call Bx
        clear Bx
        refine hK.out _ _ (hS.b) (fun hHeldN => ?_)
        clear hHeld hK K
        have hHeld := hHeldN
        clear hHeldN
        try simp only [Act.put, List.setIfInBounds_toArray, List.set_cons_zero, List.set_cons_succ]
        have zx := hS.x _ rfl
        have zy := hS.y _ rfl
        have ap := hS.ap _ _ rfl rfl
        try simp only [size_alloc5, size_drew5] at zx
        try simp only [size_alloc5, size_drew5] at zy
        try simp only [size_alloc5, size_drew5] at ap
        try simp only [size_alloc5, size_drew5] at hS
        have hb5 := hS.b
        refine held_ready (i := 8) rfl (by kernel_rfl) (fun K hK => ?_)
        rw [if_pos (by rfl)]
        refine wp_store_s 24 (.tmp 7) (.tmp 19) rfl _ (tab (turnF W x)) rfl rfl 24 _ zx.1 (info16 _) (zero_size _) ?_
        intro w6 R6 U6
        have hb6 := hb5.other (U6.out.block _ hb5.lt (fun e => by have := zx.2; omega))
        have zy6 := zy.1.other (U6.out.block _ zy.1.lt (fun e => ap e.symm))
        refine hK.out _ _ (hb6) (fun hHeldN => ?_)
        clear hHeld hK K
        have hHeld := hHeldN
        clear hHeldN
        try simp only [Act.put, List.setIfInBounds_toArray, List.set_cons_zero, List.set_cons_succ]
        refine held_ready (i := 9) rfl (by kernel_rfl) (fun K hK => ?_)
        rw [if_pos (by rfl)]
        refine wp_store_s 24 (.tmp 8) (.tmp 22) rfl _ (tab (backF W x)) rfl rfl 24 _ zy6 (info16 _) (zero_size _) ?_
        intro w7 R7 U7
        have hb7 := hb6.other (U7.out.block _ hb6.lt (fun e => by have := zy.2; omega))
        have T7 := hS.stores R6.out U6.out R7.out U7.out
        refine hK.out _ _ (hb7) (fun hHeldN => ?_)
        clear hHeld hK K
        have hHeld := hHeldN
        clear hHeldN
        try simp only [Act.put, List.setIfInBounds_toArray, List.set_cons_zero, List.set_cons_succ]
        refine wpAnyH_done (by kernel_rfl) ?_ _
        clear hHeld
        clear hS zx zy ap hb5 hb6 zy6 R6 U6 R7 U7 hb7
        replace T7 := Lib.hid T7
        go_wp2_with fail
        go_meet
        exact ⟨_, _, rfl, rfl, T7.out⟩
  case rest =>
    obtain ⟨gx, gy, rfl, rfl, hS⟩ := hcut
    replace hS := Lib.hid hS
    go_wp2_with fail
    obtain ⟨gz, hgz⟩ : ∃ gz, gz = wc.heap.size := ⟨_, rfl⟩
    have S0 : TrnSt w (wc.alloc (.cells Try.zeroCells36 36)).drew gx gy c aw cw vb vk W x (turnF W x) (backF W x) := hS.out.call (((Below.refl _ _).alloc (Nat.le_refl _) _).drew)
    have z0 : (wc.alloc (.cells Try.zeroCells36 36)).drew.cell? ⟨gz, 0, none⟩ = some (.bool false) := by
      rw [hgz]
      exact (cell_of_row _ _ 0 _ _ _ (heap_alloc_new wc (.cells Try.zeroCells36 36))).trans (by kernel_rfl)
    obtain ⟨Z, hZ⟩ : ∃ Z, Z = List.replicate 16 0 := ⟨_, rfl⟩
    have tn := fun (wx : World) => turn_nil wx x
    have bo := fun (wx : World) (hb : gz < wx.heap.size) (c0 : wx.cell? ⟨gz, 0, none⟩ = some (.bool false)) => back_off hb c0 x
    simp only [← hZ] at tn bo
    have qz : ∀ x, (Op.equalIn 10000 24 (.agg (u8s Z)) (.agg #[.int .u8 0, .int .u8 0, .int .u8 0, .int .u8 0, .int .u8 0, .int .u8 0, .int .u8 0, .int .u8 0, .int .u8 0, .int .u8 0, .int .u8 0, .int .u8 0, .int .u8 0, .int .u8 0, .int .u8 0, .int .u8 0])).run Try.prog x = .ok true x := fun y => by
      have h := cmp16 (fun _ => 0) (fun _ => 0) (fun _ _ => (by decide : (0 : Nat) < 256)) (fun _ _ => (by decide : (0 : Nat) < 256)) y
      rw [beq_self_eq_true] at h
      rw [hZ]
      exact h
    have Sb : ∀ w', TrnSt w w' gx gy c aw cw vb vk W x (turnF W x) (backF W x) → RowB w' (w.heap.size + 1) 24 (tab x) := fun w' h => h.b
    have Sx : ∀ w', TrnSt w w' gx gy c aw cw vb vk W x (turnF W x) (backF W x) → TextAt w' (.slice (some ⟨gx, 0, none⟩) 16 16) (tab (turnF W x)) := fun w' h => row_all h.x (tabs_lt bT.out) (length_tab _)
    have Sy : ∀ w', TrnSt w w' gx gy c aw cw vb vk W x (turnF W x) (backF W x) → TextAt w' (.slice (some ⟨gy, 0, none⟩) 16 16) (tab (backF W x)) := fun w' h => row_all h.y (tabs_lt bB.out) (length_tab _)
    rw [← hgz]
    replace S0 := Lib.hid S0
    replace z0 := Lib.hid z0
    replace hZ := Lib.hid hZ
    replace tn := Lib.hid tn
    replace bo := Lib.hid bo
    replace Sb := Lib.hid Sb
    replace Sx := Lib.hid Sx
    replace Sy := Lib.hid Sy
    replace hgz := Lib.hid hgz
    refine wp_region_held_drew (S := (fun w' => TrnSt w w' gx gy c aw cw vb vk W x (turnF W x) (backF W x))) (by kernel_rfl) (S0.out) (fun hHeld => ?_)
    refine held_ready (i := 0) rfl (by kernel_rfl) (fun K hK => ?_)
    go_simp
    refine (al.out _).mono ?_; rintro e w5 ⟨rfl, B5⟩
    have S5 := S0.out.call B5
    have z5 := (B5.cell (block_lt_of_cell z0.out)).trans z0.out
    replace B5 := Lib.hid B5
    replace S5 := Lib.hid S5
    replace z5 := Lib.hid z5
    refine hK.out _ _ (S5.out) (fun hHeldN => ?_)
    clear hHeld hK K
    have hHeld := hHeldN
    clear hHeldN
    try simp only [Act.put, List.setIfInBounds_toArray, List.set_cons_zero, List.set_cons_succ]
    refine held_take (i := 1) (v := ?_) rfl (by kernel_rfl) (by kernel_rfl) (by kernel_rfl) (fun _ _ _ h => h) (Or.inl ⟨by rfl, ?_⟩) (by assumption) ?_
    rotate_left
    · intro w hSw; (try dsimp only at hSw); go_simp; try with_reducible rfl
    try simp only [Act.put, List.setIfInBounds_toArray, List.set_cons_zero, List.set_cons_succ]
    refine held_take (i := 2) (v := ?_) rfl (by kernel_rfl) (by kernel_rfl) (by kernel_rfl) (fun _ _ _ h => h) (Or.inl ⟨by rfl, ?_⟩) (by assumption) ?_
    rotate_left
    · intro w hSw; (try dsimp only at hSw); go_simp; try with_reducible rfl
    try simp only [Act.put, List.setIfInBounds_toArray, List.set_cons_zero, List.set_cons_succ]
    refine held_take (i := 3) (v := _) rfl (by kernel_rfl) (by kernel_rfl) (by kernel_rfl) (fun _ _ _ h => h) (yieldsIf_str (by rfl) rfl rfl (v := .slice (some ⟨gx, 0, none⟩) 16 16) Sx.out) (by assumption) ?_
    try simp only [Act.put, List.setIfInBounds_toArray, List.set_cons_zero, List.set_cons_succ]
    refine held_take (i := 4) (v := ?_) rfl (by kernel_rfl) (by kernel_rfl) (by kernel_rfl) (fun _ _ _ h => h) (Or.inl ⟨by rfl, ?_⟩) (by assumption) ?_
    rotate_left
    · intro w hSw; (try dsimp only at hSw); go_simp; try with_reducible rfl
    try simp only [Act.put, List.setIfInBounds_toArray, List.set_cons_zero, List.set_cons_succ]
    refine held_take (i := 5) (v := ?_) rfl (by kernel_rfl) (by kernel_rfl) (by kernel_rfl) (fun _ _ _ h => h) (Or.inl ⟨by rfl, ?_⟩) (by assumption) ?_
    rotate_left
    · intro w hSw; (try dsimp only at hSw); go_simp; try with_reducible rfl
    try simp only [Act.put, List.setIfInBounds_toArray, List.set_cons_zero, List.set_cons_succ]
    refine held_ready (i := 6) rfl (by kernel_rfl) (fun K hK => ?_)
    go_simp
    refine (rturn_any w5 c aw cw vb vk W hW.out S5.out.R _ x bx.out (row_all S5.out.b (tabs_lt bx.out) (length_tab _))).mono ?_
    rintro e w6 ⟨v6, rfl, O6, B6⟩
    have S6 := S5.out.call B6
    have z6 := (B6.cell (block_lt_of_cell z5.out)).trans z5.out
    have T6 := O6.text (tabs_lt bT.out)
    replace B6 := Lib.hid B6
    replace S6 := Lib.hid S6
    replace z6 := Lib.hid z6
    replace O6 := Lib.hid O6
    replace T6 := Lib.hid T6
    refine hK.out _ _ (S6.out) (fun hHeldN => ?_)
    clear hHeld hK K
    have hHeld := hHeldN
    clear hHeldN
    try simp only [Act.put, List.setIfInBounds_toArray, List.set_cons_zero, List.set_cons_succ]
    refine held_ready (i := 7) rfl (by kernel_rfl) (fun K hK => ?_)
    rw [if_pos (by rfl)]
    refine wp_str rfl rfl T6.out ?_
    refine hK.out _ _ (S6.out) (fun hHeldN => ?_)
    clear hHeld hK K
    have hHeld := hHeldN
    clear hHeldN
    try simp only [Act.put, List.setIfInBounds_toArray, List.set_cons_zero, List.set_cons_succ]
    refine held_take (i := 8) (v := ?_) rfl (by kernel_rfl) (by kernel_rfl) (by kernel_rfl) (fun _ _ _ h => h) (Or.inl ⟨by rfl, ?_⟩) (by assumption) ?_
    rotate_left
    · intro w hSw; (try dsimp only at hSw); go_simp; try with_reducible rfl
    try simp only [Act.put, List.setIfInBounds_toArray, List.set_cons_zero, List.set_cons_succ]
    refine held_take (i := 9) (v := ?_) rfl (by kernel_rfl) (by kernel_rfl) (by kernel_rfl) (fun _ _ _ h => h) (Or.inl ⟨by rfl, ?_⟩) (by assumption) ?_
    rotate_left
    · intro w hSw; (try dsimp only at hSw); go_simp; try with_reducible rfl
    try simp only [Act.put, List.setIfInBounds_toArray, List.set_cons_zero, List.set_cons_succ]
    refine held_take (i := 10) (v := ?_) rfl (by kernel_rfl) (by kernel_rfl) (by kernel_rfl) (fun _ _ _ h => h) (Or.inl ⟨by rfl, ?_⟩) (by assumption) ?_
    rotate_left
    · intro w hSw; (try dsimp only at hSw); go_simp; try with_reducible rfl
    try simp only [Act.put, List.setIfInBounds_toArray, List.set_cons_zero, List.set_cons_succ]
    refine held_take (i := 11) (v := ?_) rfl (by kernel_rfl) (by kernel_rfl) (by kernel_rfl) (fun _ _ _ h => h) (Or.inl ⟨by rfl, ?_⟩) (by assumption) ?_
    rotate_left
    · intro w hSw; (try dsimp only at hSw); go_simp; try with_reducible rfl
    try simp only [Act.put, List.setIfInBounds_toArray, List.set_cons_zero, List.set_cons_succ]
    refine held_take (i := 12) (v := _) rfl (by kernel_rfl) (by kernel_rfl) (by kernel_rfl) (fun _ _ _ h => h) (yieldsIf_str (by rfl) rfl rfl (v := .slice (some ⟨gy, 0, none⟩) 16 16) Sy.out) (by assumption) ?_
    try simp only [Act.put, List.setIfInBounds_toArray, List.set_cons_zero, List.set_cons_succ]
    refine held_take (i := 13) (v := ?_) rfl (by kernel_rfl) (by kernel_rfl) (by kernel_rfl) (fun _ _ _ h => h) (Or.inl ⟨by rfl, ?_⟩) (by assumption) ?_
    rotate_left
    · intro w hSw; (try dsimp only at hSw); go_simp; try with_reducible rfl
    try simp only [Act.put, List.setIfInBounds_toArray, List.set_cons_zero, List.set_cons_succ]
    refine held_take (i := 14) (v := ?_) rfl (by kernel_rfl) (by kernel_rfl) (by kernel_rfl) (fun _ _ _ h => h) (Or.inl ⟨by rfl, ?_⟩) (by assumption) ?_
    rotate_left
    · intro w hSw; (try dsimp only at hSw); go_simp; try with_reducible rfl
    try simp only [Act.put, List.setIfInBounds_toArray, List.set_cons_zero, List.set_cons_succ]
    refine held_ready (i := 15) rfl (by kernel_rfl) (fun K hK => ?_)
    go_simp
    refine (rback_any w6 c aw cw vb vk W hW.out S6.out.R _ x bx.out (row_all S6.out.b (tabs_lt bx.out) (length_tab _))).mono ?_
    rintro e w7 ⟨v7, rfl, O7, B7⟩
    have S7 := S6.out.call B7
    have z7 := (B7.cell (block_lt_of_cell z6.out)).trans z6.out
    have T7 := O7.text (tabs_lt bB.out)
    replace B7 := Lib.hid B7
    replace S7 := Lib.hid S7
    replace z7 := Lib.hid z7
    replace O7 := Lib.hid O7
    replace T7 := Lib.hid T7
    refine hK.out _ _ (S7.out) (fun hHeldN => ?_)
    clear hHeld hK K
    have hHeld := hHeldN
    clear hHeldN
    try simp only [Act.put, List.setIfInBounds_toArray, List.set_cons_zero, List.set_cons_succ]
    refine held_ready (i := 16) rfl (by kernel_rfl) (fun K hK => ?_)
    rw [if_pos (by rfl)]
    refine wp_str rfl rfl T7.out ?_
    refine hK.out _ _ (S7.out) (fun hHeldN => ?_)
    clear hHeld hK K
    have hHeld := hHeldN
    clear hHeldN
    try simp only [Act.put, List.setIfInBounds_toArray, List.set_cons_zero, List.set_cons_succ]
    refine held_take (i := 17) (v := ?_) rfl (by kernel_rfl) (by kernel_rfl) (by kernel_rfl) (fun _ _ _ h => h) (Or.inl ⟨by rfl, ?_⟩) (by assumption) ?_
    rotate_left
    · intro w hSw; (try dsimp only at hSw); go_simp; try with_reducible rfl
    try simp only [Act.put, List.setIfInBounds_toArray, List.set_cons_zero, List.set_cons_succ]
    refine held_take (i := 18) (v := ?_) rfl (by kernel_rfl) (by kernel_rfl) (by kernel_rfl) (fun _ _ _ h => h) (Or.inl ⟨by rfl, ?_⟩) (by assumption) ?_
    rotate_left
    · intro w hSw; (try dsimp only at hSw); go_simp; try with_reducible rfl
    try simp only [Act.put, List.setIfInBounds_toArray, List.set_cons_zero, List.set_cons_succ]
    refine held_take (i := 19) (v := ?_) rfl (by kernel_rfl) (by kernel_rfl) (by kernel_rfl) (fun _ _ _ h => h) (Or.inl ⟨by rfl, ?_⟩) (by assumption) ?_
    rotate_left
    · intro w hSw; (try dsimp only at hSw); go_simp; try with_reducible rfl
    try simp only [Act.put, List.setIfInBounds_toArray, List.set_cons_zero, List.set_cons_succ]
    refine held_take (i := 20) (v := ?_) rfl (by kernel_rfl) (by kernel_rfl) (by kernel_rfl) (fun _ _ _ h => h) (Or.inl ⟨by rfl, ?_⟩) (by assumption) ?_
    rotate_left
    · intro w hSw; (try dsimp only at hSw); go_simp; try with_reducible rfl
    try simp only [Act.put, List.setIfInBounds_toArray, List.set_cons_zero, List.set_cons_succ]
    refine held_take (i := 21) (v := _) rfl (by kernel_rfl) (by kernel_rfl) (by kernel_rfl) (fun _ _ _ h => h) (yieldsIf_row (by rfl) rfl rfl Try.underlying24 im Sb.out) (by assumption) ?_
    try simp only [Act.put, List.setIfInBounds_toArray, List.set_cons_zero, List.set_cons_succ]
    refine held_take (i := 23) (v := ?_) rfl (by kernel_rfl) (by kernel_rfl) (by kernel_rfl) (fun _ _ _ h => h) (Or.inl ⟨by rfl, ?_⟩) (by assumption) ?_
    rotate_left
    · intro w hSw; (try dsimp only at hSw); go_simp; try with_reducible rfl
    try simp only [Act.put, List.setIfInBounds_toArray, List.set_cons_zero, List.set_cons_succ]
    refine held_ready (i := 22) rfl (by kernel_rfl) (fun K hK => ?_)
    go_simp
    refine (tn.out w7).mono ?_; rintro e w8 ⟨rfl, B8⟩
    have S8 := S7.out.call B8
    have z8 := (B8.cell (block_lt_of_cell z7.out)).trans z7.out
    replace B8 := Lib.hid B8
    replace S8 := Lib.hid S8
    replace z8 := Lib.hid z8
    refine hK.out _ _ (S8.out) (fun hHeldN => ?_)
    clear hHeld hK K
    have hHeld := hHeldN
    clear hHeldN
    try simp only [Act.put, List.setIfInBounds_toArray, List.set_cons_zero, List.set_cons_succ]
    refine held_take (i := 24) (v := ?_) rfl (by kernel_rfl) (by kernel_rfl) (by kernel_rfl) (fun _ _ _ h => h) (Or.inl ⟨by rfl, ?_⟩) (by assumption) ?_
    rotate_left
    · intro w hSw; (try dsimp only at hSw); go_simp; try with_reducible rfl
    try simp only [Act.put, List.setIfInBounds_toArray, List.set_cons_zero, List.set_cons_succ]
    refine held_take (i := 25) (v := ?_) rfl (by kernel_rfl) (by kernel_rfl) (by kernel_rfl) (fun _ _ _ h => h) (Or.inl ⟨by rfl, ?_⟩) (by assumption) ?_
    rotate_left
    · intro w hSw; (try dsimp only at hSw); go_simp; try with_reducible rfl
    try simp only [Act.put, List.setIfInBounds_toArray, List.set_cons_zero, List.set_cons_succ]
    refine held_take (i := 26) (v := ?_) rfl (by kernel_rfl) (by kernel_rfl) (by kernel_rfl) (fun _ _ _ h => h) (Or.inl ⟨by rfl, ?_⟩) (by assumption) ?_
    rotate_left
    · intro w hSw; (try dsimp only at hSw); go_simp; try with_reducible rfl
    try simp only [Act.put, List.setIfInBounds_toArray, List.set_cons_zero, List.set_cons_succ]
    refine held_take (i := 27) (v := _) rfl (by kernel_rfl) (by kernel_rfl) (by kernel_rfl) (fun _ _ _ h => h) (yieldsIf_row (by rfl) rfl rfl Try.underlying24 im Sb.out) (by assumption) ?_
    try simp only [Act.put, List.setIfInBounds_toArray, List.set_cons_zero, List.set_cons_succ]
    refine held_take (i := 29) (v := ?_) rfl (by kernel_rfl) (by kernel_rfl) (by kernel_rfl) (fun _ _ _ h => h) (Or.inl ⟨by rfl, ?_⟩) (by assumption) ?_
    rotate_left
    · intro w hSw; (try dsimp only at hSw); go_simp; try with_reducible rfl
    try simp only [Act.put, List.setIfInBounds_toArray, List.set_cons_zero, List.set_cons_succ]
    refine held_ready (i := 28) rfl (by kernel_rfl) (fun K hK => ?_)
    go_simp
    refine (bo.out w8 (block_lt_of_cell z8.out) z8.out).mono ?_; rintro e w9 ⟨rfl, B9⟩
    have S9 := S8.out.call B9
    have low9 := S9.low
    replace B9 := Lib.hid B9
    replace S9 := Lib.hid S9
    replace low9 := Lib.hid low9
    refine hK.out _ _ (S9.out) (fun hHeldN => ?_)
    clear hHeld hK K
    have hHeld := hHeldN
    clear hHeldN
    try simp only [Act.put, List.setIfInBounds_toArray, List.set_cons_zero, List.set_cons_succ]
    refine held_take (i := 30) (v := ?_) rfl (by kernel_rfl) (by kernel_rfl) (by kernel_rfl) (fun _ _ _ h => h) (Or.inl ⟨by rfl, ?_⟩) (by assumption) ?_
    rotate_left
    · intro w hSw; (try dsimp only at hSw); go_simp; try with_reducible rfl
    try simp only [Act.put, List.setIfInBounds_toArray, List.set_cons_zero, List.set_cons_succ]
    refine held_take (i := 31) (v := ?_) rfl (by kernel_rfl) (by kernel_rfl) (by kernel_rfl) (fun _ _ _ h => h) (Or.inl ⟨by rfl, ?_⟩) (by assumption) ?_
    rotate_left
    · intro w hSw; (try dsimp only at hSw); go_simp; try with_reducible rfl
    try simp only [Act.put, List.setIfInBounds_toArray, List.set_cons_zero, List.set_cons_succ]
    refine held_take (i := 32) (v := ?_) rfl (by kernel_rfl) (by kernel_rfl) (by kernel_rfl) (fun _ _ _ h => h) (Or.inl ⟨by rfl, ?_⟩) (by assumption) ?_
    rotate_left
    · intro w hSw; (try dsimp only at hSw); go_simp; try with_reducible rfl
    try simp only [Act.put, List.setIfInBounds_toArray, List.set_cons_zero, List.set_cons_succ]
    refine wpAnyH_done (by kernel_rfl) ?_ _
    clear hHeld
    go_wp2_with fail
    go_ret
    exact ⟨rfl, low9.out⟩
end Go.Proofs.Ytnadgjlmlnhknaa
