/-
  alive of law 6: the fixed calls. No condition.
-/
import Derived.Test.YtnadgjlmlnhknaaXtsTurn
import Derived.Test.YtnadgjlmlnhknaaXtsVec
import Derived.Deep.DeepCutAuto
namespace Go.Proofs.Ytnadgjlmlnhknaa
open Go.RowKit

/-- A key of one byte, noughts behind. -/
def keyOf (a : Nat) : List Nat := a :: List.replicate 31 0
theorem keyOf_length (a : Nat) : (keyOf a).length = 32 := by simp [keyOf]
theorem keyOf_small {a : Nat} (h : a < 256) : ∀ x ∈ keyOf a, x < 256 := by
  intro x hx
  rcases List.mem_cons.1 hx with rfl | hx
  · exact h
  · have := (List.mem_replicate.1 hx).2; omega
theorem keyOf_bt {a : Nat} (h : a < 256) : ∀ q, q < 32 → byt (keyOf a) q = bt a q := fun q hq => by
  unfold bt
  cases q with
  | zero => simp [byt, keyOf]; omega
  | succ q =>
    rw [Nat.div_eq_of_lt (Nat.lt_of_lt_of_le h (by rw [Nat.pow_succ]; exact Nat.le_mul_of_pos_left _ (Nat.pow_pos (by decide))))]
    show (List.replicate 31 0).getD q 0 = 0
    rw [List.getD_eq_getElem?_getD, List.getElem?_replicate, if_pos (by omega)]
    rfl
def noughts (n : Nat) : List Nat := List.replicate n 0
theorem noughts_length (n : Nat) : (noughts n).length = n := List.length_replicate ..
theorem byt_noughts (n i : Nat) : byt (noughts n) i = 0 := by
  unfold byt noughts
  rw [List.getD_eq_getElem?_getD, List.getElem?_replicate]
  split <;> rfl
theorem noughts_small (n : Nat) : ∀ x ∈ noughts n, x < 256 := fun x hx => by have := (List.mem_replicate.1 hx).2; omega
theorem noughts_text {w : World} {n : Nat} (t : TypeId) : TextAt (w.alloc (.cells (u8s (noughts n)) t)) (.slice (some ⟨w.heap.size, 0, none⟩) n n) (noughts n) :=
  ⟨_, n, by simp [noughts], by simp [noughts], fun e => by simp at e, fun i hi => ⟨byt_lt (noughts_small n) i, w.heap.size, 0, rfl, by
    rw [Nat.zero_add, cell_of_row _ _ _ _ _ _ (heap_alloc_new _ _)]
    rw [byt_noughts]
    have h : i < n := by simpa [noughts] using hi
    simp [u8s, noughts, h]⟩⟩

theorem apart_of {F : Nat → Nat} (h : F 0 ≠ F 16) : (bytesOf F 32).take 16 ≠ (bytesOf F 32).drop 16 := fun e => h (by
  have h0 : byt ((bytesOf F 32).take 16) 0 = byt ((bytesOf F 32).drop 16) 0 := by rw [e]
  have e1 : byt ((bytesOf F 32).take 16) 0 = F 0 := by
    rw [← byt_bytesOf F (show 0 < 32 by decide)]
    unfold byt
    rw [List.getD_eq_getElem?_getD, List.getD_eq_getElem?_getD, List.getElem?_take, if_pos (by decide)]
  have e2 : byt ((bytesOf F 32).drop 16) 0 = F 16 := by
    rw [← byt_bytesOf F (show 16 < 32 by decide)]
    unfold byt
    rw [List.getD_eq_getElem?_getD, List.getD_eq_getElem?_getD, List.getElem?_drop]
  rw [← e1, ← e2]; exact h0)
set_option maxHeartbeats 4000000 in
set_option maxRecDepth 100000 in
theorem alive06 (w : World) : Calls Try.prog 27 #[] w fun e w' => e = .returned (.bool true) ∧ Below w.heap.size w w' := by
  have cn := Lib.hid (xnew_any w (keyOf 1) (keyOf 2) (keyOf_length 1) (keyOf_small (by decide)) (keyOf_length 2) (keyOf_small (by decide)))
  have hV : ∀ i, byt (wordsOf (byt (keyOf 1))) i < 256 := words_lt (byt_small (keyOf_small (by decide))) 60
  have hW : ∀ i, byt (wordsOf (byt (keyOf 2))) i < 256 := words_lt (byt_small (keyOf_small (by decide))) 60
  have hvec := xvec (z := byt (noughts 32)) (keyOf_bt (a := 1) (by decide)) (keyOf_bt (a := 2) (by decide)) (fun i hi => byt_noughts 32 i)
  generalize byt (wordsOf (byt (keyOf 1))) = V at *
  generalize byt (wordsOf (byt (keyOf 2))) = W at *
  have hm32 : ∀ x, (Instr.makeSlice 29 (.int .i64 32) (.int .i64 32)).run Try.prog x = .ok (.slice (some ⟨x.heap.size, 0, none⟩) 32 32) (x.alloc (.cells (u8s (noughts 32)) 5)) := run_make_u8 32 32 (Nat.le_refl _) (by decide)
  have hm15 : ∀ x, (Instr.makeSlice 29 (.int .i64 15) (.int .i64 15)).run Try.prog x = .ok (.slice (some ⟨x.heap.size, 0, none⟩) 15 15) (x.alloc (.cells (u8s (noughts 15)) 5)) := run_make_u8 15 15 (Nat.le_refl _) (by decide)
  replace hV := Lib.hid hV
  replace hW := Lib.hid hW
  replace hvec := Lib.hid hvec
  replace hm32 := Lib.hid hm32
  replace hm15 := Lib.hid hm15
  go_enter Try.func27, Try.ntmps27
  go_upto_region 4 with (refine cn.out.mono ?_; rintro e w1 ⟨b, rfl, hb, hX, B1⟩; clear cn; replace hX := Lib.hid hX; replace B1 := Lib.hid B1; replace hb := Lib.hid hb)
  go_cut [2, 3] (fun s2 s3 wx => Below w1.heap.size w1 wx ∧ s3 = .int .i64 0 ∧ TextAt wx s2 (bytesOf (sec (turnF V) (turnF W (twk 5)) (byt (noughts 32))) 32))
  case first =>
    refine wp_region_held_drew (S := (fun _ => True)) (by kernel_rfl) (trivial) (fun hHeld => ?_)
    refine held_take (i := 0) (v := ?_) rfl (by kernel_rfl) (by kernel_rfl) (by kernel_rfl) (fun _ _ _ h => h) (Or.inl ⟨by rfl, ?_⟩) (by assumption) ?_
    rotate_left
    · intro w hSw; (try dsimp only at hSw); go_simp; try with_reducible rfl
    try simp only [Act.put, List.setIfInBounds_toArray, List.set_cons_zero, List.set_cons_succ]
    refine held_ready2 (i := 1) (j := 2) rfl rfl (by kernel_rfl) (fun K hK => ?_) (fun K hK => ?_)
    · go_simp
      refine (xtweak_any 5 _).mono ?_
      rintro e w2 ⟨rfl, B2⟩
      replace B2 := Lib.hid B2
      refine hK.out _ _ (trivial) (fun hHeldN => ?_)
      clear hHeld hK K
      have hHeld := hHeldN
      clear hHeldN
      try simp only [Act.put, List.setIfInBounds_toArray, List.set_cons_zero, List.set_cons_succ]
      have hm := hm32.out
      refine held_ready (i := 2) rfl (by kernel_rfl) (fun K hK => ?_)
      go_simp
      clear hm
      have l3 : Below w1.heap.size w1 (w2.alloc (.cells (u8s (noughts 32)) 5)) := ((Below.refl w1.heap.size w1).drew.trans B2.out).alloc B2.out.size _
      have hX3 := hX.out.below l3
      have t3 := noughts_text (w := w2) (n := 32) 5
      generalize w2.alloc (.cells (u8s (noughts 32)) 5) = w3 at *
      generalize w2.heap.size = g at *
      refine hK.out _ _ (trivial) (fun hHeldN => ?_)
      clear hHeld hK K
      have hHeld := hHeldN
      clear hHeldN
      try simp only [Act.put, List.setIfInBounds_toArray, List.set_cons_zero, List.set_cons_succ]
      refine held_ready (i := 3) rfl (by kernel_rfl) (fun K hK => ?_)
      go_simp
      refine (xturn_ok _ b V W hX3 hV.out hW.out (twk 5) (twk_lt 5) (some ⟨g, 0, none⟩) (noughts 32) 32 32 (noughts_length 32) t3 rfl).mono ?_
      rintro e w4 ⟨v4, rfl, o4, B4⟩
      have l4 := l3.trans (B4.mono l3.size)
      have t4 := o4.text (bytesOf_lt fun i _ => sec_lt (fun x hx => bytes_turn hV.out hx) (bytes_turn hW.out (twk_lt 5)) (byt_lt (noughts_small 32)) i)
      replace B4 := Lib.hid B4
      replace o4 := Lib.hid o4
      replace l4 := Lib.hid l4
      replace t4 := Lib.hid t4
      refine hK.out _ _ (trivial) (fun hHeldN => ?_)
      clear hHeld hK K
      have hHeld := hHeldN
      clear hHeldN
      try simp only [Act.put, List.setIfInBounds_toArray, List.set_cons_zero, List.set_cons_succ]
      refine held_take (i := 4) (v := ?_) rfl (by kernel_rfl) (by kernel_rfl) (by kernel_rfl) (fun _ _ _ h => h) (Or.inl ⟨by rfl, ?_⟩) (by assumption) ?_
      rotate_left
      · intro w hSw; (try dsimp only at hSw); go_simp; try with_reducible rfl
      try simp only [Act.put, List.setIfInBounds_toArray, List.set_cons_zero, List.set_cons_succ]
      refine held_take (i := 5) (v := ?_) rfl (by kernel_rfl) (by kernel_rfl) (by kernel_rfl) (fun _ _ _ h => h) (Or.inl ⟨by rfl, ?_⟩) (by assumption) ?_
      rotate_left
      · intro w hSw; (try dsimp only at hSw); go_simp; try with_reducible rfl
      try simp only [Act.put, List.setIfInBounds_toArray, List.set_cons_zero, List.set_cons_succ]
      refine held_take (i := 6) (v := ?_) rfl (by kernel_rfl) (by kernel_rfl) (by kernel_rfl) (fun _ _ _ h => h) (Or.inl ⟨by rfl, ?_⟩) (by assumption) ?_
      rotate_left
      · intro w hSw; (try dsimp only at hSw); go_simp; try with_reducible rfl
      try simp only [Act.put, List.setIfInBounds_toArray, List.set_cons_zero, List.set_cons_succ]
      refine held_take (i := 7) (v := ?_) rfl (by kernel_rfl) (by kernel_rfl) (by kernel_rfl) (fun _ _ _ h => h) (Or.inl ⟨by rfl, ?_⟩) (by assumption) ?_
      rotate_left
      · intro w hSw; (try dsimp only at hSw); go_simp; try with_reducible rfl
      try simp only [Act.put, List.setIfInBounds_toArray, List.set_cons_zero, List.set_cons_succ]
      refine held_take (i := 8) (v := ?_) rfl (by kernel_rfl) (by kernel_rfl) (by kernel_rfl) (fun _ _ _ h => h) (Or.inl ⟨by rfl, ?_⟩) (by assumption) ?_
      rotate_left
      · intro w hSw; (try dsimp only at hSw); go_simp; try with_reducible rfl
      try simp only [Act.put, List.setIfInBounds_toArray, List.set_cons_zero, List.set_cons_succ]
      refine wpAnyH_done (by kernel_rfl) ?_ _
      clear hHeld
      go_wp2_with fail
      go_meet
      exact ⟨l4.out, rfl, t4.out⟩
    · have hm := hm32.out
      go_simp
      clear hm
      refine hK.out _ _ (trivial) (fun hHeldN => ?_)
      clear hHeld hK K
      have hHeld := hHeldN
      clear hHeldN
      try simp only [Act.put, List.setIfInBounds_toArray, List.set_cons_zero, List.set_cons_succ]
      refine held_ready (i := 1) rfl (by kernel_rfl) (fun K hK => ?_)
      go_simp
      refine (xtweak_any 5 _).mono ?_
      rintro e w2 ⟨rfl, B2⟩
      have l1 : Below w1.heap.size w1 (w1.drew.alloc (.cells (u8s (noughts 32)) 5)) := (Below.refl w1.heap.size w1).drew.alloc (Nat.le_refl _) _
      have l3 : Below w1.heap.size w1 w2 := l1.trans (B2.mono l1.size)
      have hX3 := hX.out.below l3
      have t3 : TextAt w2 (.slice (some ⟨w1.heap.size, 0, none⟩) 32 32) (noughts 32) := (noughts_text (w := w1.drew) (n := 32) 5).below B2
      replace B2 := Lib.hid B2
      replace l1 := Lib.hid l1
      obtain ⟨g, hg⟩ : ∃ g, g = w1.heap.size := ⟨_, rfl⟩
      rw [← hg] at t3
      rw [← hg]
      replace hg := Lib.hid hg
      refine hK.out _ _ (trivial) (fun hHeldN => ?_)
      clear hHeld hK K
      have hHeld := hHeldN
      clear hHeldN
      try simp only [Act.put, List.setIfInBounds_toArray, List.set_cons_zero, List.set_cons_succ]
      refine held_ready (i := 3) rfl (by kernel_rfl) (fun K hK => ?_)
      go_simp
      refine (xturn_ok _ b V W hX3 hV.out hW.out (twk 5) (twk_lt 5) (some ⟨g, 0, none⟩) (noughts 32) 32 32 (noughts_length 32) t3 rfl).mono ?_
      rintro e w4 ⟨v4, rfl, o4, B4⟩
      have l4 := l3.trans (B4.mono l3.size)
      have t4 := o4.text (bytesOf_lt fun i _ => sec_lt (fun x hx => bytes_turn hV.out hx) (bytes_turn hW.out (twk_lt 5)) (byt_lt (noughts_small 32)) i)
      replace B4 := Lib.hid B4
      replace o4 := Lib.hid o4
      replace l4 := Lib.hid l4
      replace t4 := Lib.hid t4
      refine hK.out _ _ (trivial) (fun hHeldN => ?_)
      clear hHeld hK K
      have hHeld := hHeldN
      clear hHeldN
      try simp only [Act.put, List.setIfInBounds_toArray, List.set_cons_zero, List.set_cons_succ]
      refine held_take (i := 4) (v := ?_) rfl (by kernel_rfl) (by kernel_rfl) (by kernel_rfl) (fun _ _ _ h => h) (Or.inl ⟨by rfl, ?_⟩) (by assumption) ?_
      rotate_left
      · intro w hSw; (try dsimp only at hSw); go_simp; try with_reducible rfl
      try simp only [Act.put, List.setIfInBounds_toArray, List.set_cons_zero, List.set_cons_succ]
      refine held_take (i := 5) (v := ?_) rfl (by kernel_rfl) (by kernel_rfl) (by kernel_rfl) (fun _ _ _ h => h) (Or.inl ⟨by rfl, ?_⟩) (by assumption) ?_
      rotate_left
      · intro w hSw; (try dsimp only at hSw); go_simp; try with_reducible rfl
      try simp only [Act.put, List.setIfInBounds_toArray, List.set_cons_zero, List.set_cons_succ]
      refine held_take (i := 6) (v := ?_) rfl (by kernel_rfl) (by kernel_rfl) (by kernel_rfl) (fun _ _ _ h => h) (Or.inl ⟨by rfl, ?_⟩) (by assumption) ?_
      rotate_left
      · intro w hSw; (try dsimp only at hSw); go_simp; try with_reducible rfl
      try simp only [Act.put, List.setIfInBounds_toArray, List.set_cons_zero, List.set_cons_succ]
      refine held_take (i := 7) (v := ?_) rfl (by kernel_rfl) (by kernel_rfl) (by kernel_rfl) (fun _ _ _ h => h) (Or.inl ⟨by rfl, ?_⟩) (by assumption) ?_
      rotate_left
      · intro w hSw; (try dsimp only at hSw); go_simp; try with_reducible rfl
      try simp only [Act.put, List.setIfInBounds_toArray, List.set_cons_zero, List.set_cons_succ]
      refine held_take (i := 8) (v := ?_) rfl (by kernel_rfl) (by kernel_rfl) (by kernel_rfl) (fun _ _ _ h => h) (Or.inl ⟨by rfl, ?_⟩) (by assumption) ?_
      rotate_left
      · intro w hSw; (try dsimp only at hSw); go_simp; try with_reducible rfl
      try simp only [Act.put, List.setIfInBounds_toArray, List.set_cons_zero, List.set_cons_succ]
      refine wpAnyH_done (by kernel_rfl) ?_ _
      clear hHeld
      go_wp2_with fail
      go_meet
      exact ⟨l4.out, rfl, t4.out⟩
  case rest =>
    obtain ⟨B5, rfl, t5⟩ := hcut
    have bT : ∀ i, sec (turnF V) (turnF W (twk 5)) (byt (noughts 32)) i < 256 := fun i => sec_lt (fun x hx => bytes_turn hV.out hx) (bytes_turn hW.out (twk_lt 5)) (byt_lt (noughts_small 32)) i
    have ebk := sec_back (m := turnF W (twk 5)) (l := noughts 32) (fun x hx => back_turn hV.out hx) (fun x y h => same_back h) (bytes_turn hW.out (twk_lt 5)) (by rw [noughts_length]) (noughts_small 32)
    rw [noughts_length] at ebk
    have enq := apart_of hvec.out
    have lT : (bytesOf (sec (turnF V) (turnF W (twk 5)) (byt (noughts 32))) 32).length = 32 := length_bytesOf _ _
    have sT : ∀ x ∈ bytesOf (sec (turnF V) (turnF W (twk 5)) (byt (noughts 32))) 32, x < 256 := bytesOf_lt fun i _ => bT i
    obtain ⟨ao, cap, e, hc1, hc2, hc3⟩ := t5.ex
    rw [lT] at e hc1
    subst e
    have cb := Lib.hid (fun wx (hx : XtsAt wx b V W) (ht : TextAt wx (.slice ao 32 cap) _) => xback_ok wx b V W hx hV.out hW.out (twk 5) (twk_lt 5) ao _ 32 cap lT ht rfl)
    rw [ebk] at cb
    generalize bytesOf (sec (turnF V) (turnF W (twk 5)) (byt (noughts 32))) 32 = T at *
    clear hvec
    replace B5 := Lib.hid B5
    replace t5 := Lib.hid t5
    replace bT := Lib.hid bT
    replace ebk := Lib.hid ebk
    replace enq := Lib.hid enq
    replace lT := Lib.hid lT
    replace sT := Lib.hid sT
    replace hc1 := Lib.hid hc1
    replace hc2 := Lib.hid hc2
    replace hc3 := Lib.hid hc3
    go_upto_region 6 with (first
      | (go_at_call 26; refine (xtweak_any 5 _).mono ?_; rintro e w6 ⟨rfl, B6⟩; replace B6 := Lib.hid B6)
      | (go_at_call 33; refine (cb.out _ (hX.out.below (B5.out.trans (B6.out.mono B5.out.size))) (t5.out.below B6.out)).mono ?_; rintro e w7 ⟨v7, rfl, o7, B7⟩; have t7 := Lib.hid (o7.text (noughts_small 32)); replace o7 := Lib.hid o7; replace B7 := Lib.hid B7))
    have l7 := (B5.out.trans (B6.out.mono B5.out.size)).trans (B7.out.mono (B5.out.trans (B6.out.mono B5.out.size)).size)
    have t5a := (t5.out.below B6.out).below B7.out
    clear cb
    replace l7 := Lib.hid l7
    replace t5a := Lib.hid t5a
    go_cut [6, 7] (fun s6 s7 wx => Below w7.heap.size w7 wx ∧ s7 = .int .i64 3)
    case first =>
      refine wp_region_held_drew (S := (fun _ => True)) (by kernel_rfl) (trivial) (fun hHeld => ?_)
      refine held_take (i := 0) (v := ?_) rfl (by kernel_rfl) (by kernel_rfl) (by kernel_rfl) (fun _ _ _ h => h) (Or.inl ⟨by rfl, ?_⟩) (by assumption) ?_
      rotate_left
      · intro w hSw; (try dsimp only at hSw); go_simp; try with_reducible rfl
      try simp only [Act.put, List.setIfInBounds_toArray, List.set_cons_zero, List.set_cons_succ]
      refine held_ready2 (i := 1) (j := 2) rfl rfl (by kernel_rfl) (fun K hK => ?_) (fun K hK => ?_)
      · go_simp
        refine (xtweak_any 5 _).mono ?_
        rintro e w2 ⟨rfl, B2⟩
        replace B2 := Lib.hid B2
        refine hK.out _ _ (trivial) (fun hHeldN => ?_)
        clear hHeld hK K
        have hHeld := hHeldN
        clear hHeldN
        try simp only [Act.put, List.setIfInBounds_toArray, List.set_cons_zero, List.set_cons_succ]
        have hm := hm15.out
        refine held_ready (i := 2) rfl (by kernel_rfl) (fun K hK => ?_)
        go_simp
        clear hm
        have l3 : Below w7.heap.size w7 (w2.alloc (.cells (u8s (noughts 15)) 5)) := ((Below.refl w7.heap.size w7).drew.trans B2.out).alloc B2.out.size _
        have hX3 := hX.out.below (l7.out.trans (l3.mono l7.out.size))
        generalize w2.alloc (.cells (u8s (noughts 15)) 5) = w3 at *
        generalize w2.heap.size = g at *
        refine hK.out _ _ (trivial) (fun hHeldN => ?_)
        clear hHeld hK K
        have hHeld := hHeldN
        clear hHeldN
        try simp only [Act.put, List.setIfInBounds_toArray, List.set_cons_zero, List.set_cons_succ]
        refine held_ready (i := 3) rfl (by kernel_rfl) (fun K hK => ?_)
        go_simp
        refine (xturn_bad _ b V W hX3 (twk 5) (some ⟨g, 0, none⟩) 15 15 (by decide) rfl).mono ?_
        rintro e w4 ⟨rfl, B4⟩
        have l4 := l3.trans (B4.mono l3.size)
        replace B4 := Lib.hid B4
        replace l4 := Lib.hid l4
        refine hK.out _ _ (trivial) (fun hHeldN => ?_)
        clear hHeld hK K
        have hHeld := hHeldN
        clear hHeldN
        try simp only [Act.put, List.setIfInBounds_toArray, List.set_cons_zero, List.set_cons_succ]
        refine held_take (i := 4) (v := ?_) rfl (by kernel_rfl) (by kernel_rfl) (by kernel_rfl) (fun _ _ _ h => h) (Or.inl ⟨by rfl, ?_⟩) (by assumption) ?_
        rotate_left
        · intro w hSw; (try dsimp only at hSw); go_simp; try with_reducible rfl
        try simp only [Act.put, List.setIfInBounds_toArray, List.set_cons_zero, List.set_cons_succ]
        refine held_take (i := 5) (v := ?_) rfl (by kernel_rfl) (by kernel_rfl) (by kernel_rfl) (fun _ _ _ h => h) (Or.inl ⟨by rfl, ?_⟩) (by assumption) ?_
        rotate_left
        · intro w hSw; (try dsimp only at hSw); go_simp; try with_reducible rfl
        try simp only [Act.put, List.setIfInBounds_toArray, List.set_cons_zero, List.set_cons_succ]
        refine held_take (i := 6) (v := ?_) rfl (by kernel_rfl) (by kernel_rfl) (by kernel_rfl) (fun _ _ _ h => h) (Or.inl ⟨by rfl, ?_⟩) (by assumption) ?_
        rotate_left
        · intro w hSw; (try dsimp only at hSw); go_simp; try with_reducible rfl
        try simp only [Act.put, List.setIfInBounds_toArray, List.set_cons_zero, List.set_cons_succ]
        refine held_take (i := 7) (v := ?_) rfl (by kernel_rfl) (by kernel_rfl) (by kernel_rfl) (fun _ _ _ h => h) (Or.inl ⟨by rfl, ?_⟩) (by assumption) ?_
        rotate_left
        · intro w hSw; (try dsimp only at hSw); go_simp; try with_reducible rfl
        try simp only [Act.put, List.setIfInBounds_toArray, List.set_cons_zero, List.set_cons_succ]
        refine held_take (i := 8) (v := ?_) rfl (by kernel_rfl) (by kernel_rfl) (by kernel_rfl) (fun _ _ _ h => h) (Or.inl ⟨by rfl, ?_⟩) (by assumption) ?_
        rotate_left
        · intro w hSw; (try dsimp only at hSw); go_simp; try with_reducible rfl
        try simp only [Act.put, List.setIfInBounds_toArray, List.set_cons_zero, List.set_cons_succ]
        refine wpAnyH_done (by kernel_rfl) ?_ _
        clear hHeld
        go_wp2_with fail
        go_meet
        exact ⟨l4.out, rfl⟩
      · have hm := hm15.out
        go_simp
        clear hm
        refine hK.out _ _ (trivial) (fun hHeldN => ?_)
        clear hHeld hK K
        have hHeld := hHeldN
        clear hHeldN
        try simp only [Act.put, List.setIfInBounds_toArray, List.set_cons_zero, List.set_cons_succ]
        refine held_ready (i := 1) rfl (by kernel_rfl) (fun K hK => ?_)
        go_simp
        refine (xtweak_any 5 _).mono ?_
        rintro e w2 ⟨rfl, B2⟩
        have l1 : Below w7.heap.size w7 (w7.drew.alloc (.cells (u8s (noughts 15)) 5)) := (Below.refl w7.heap.size w7).drew.alloc (Nat.le_refl _) _
        have l3 : Below w7.heap.size w7 w2 := l1.trans (B2.mono l1.size)
        have hX3 := hX.out.below (l7.out.trans (l3.mono l7.out.size))
        replace B2 := Lib.hid B2
        replace l1 := Lib.hid l1
        obtain ⟨g, hg⟩ : ∃ g, g = w7.heap.size := ⟨_, rfl⟩
        rw [← hg]
        replace hg := Lib.hid hg
        refine hK.out _ _ (trivial) (fun hHeldN => ?_)
        clear hHeld hK K
        have hHeld := hHeldN
        clear hHeldN
        try simp only [Act.put, List.setIfInBounds_toArray, List.set_cons_zero, List.set_cons_succ]
        refine held_ready (i := 3) rfl (by kernel_rfl) (fun K hK => ?_)
        go_simp
        refine (xturn_bad _ b V W hX3 (twk 5) (some ⟨g, 0, none⟩) 15 15 (by decide) rfl).mono ?_
        rintro e w4 ⟨rfl, B4⟩
        have l4 := l3.trans (B4.mono l3.size)
        replace B4 := Lib.hid B4
        replace l4 := Lib.hid l4
        refine hK.out _ _ (trivial) (fun hHeldN => ?_)
        clear hHeld hK K
        have hHeld := hHeldN
        clear hHeldN
        try simp only [Act.put, List.setIfInBounds_toArray, List.set_cons_zero, List.set_cons_succ]
        refine held_take (i := 4) (v := ?_) rfl (by kernel_rfl) (by kernel_rfl) (by kernel_rfl) (fun _ _ _ h => h) (Or.inl ⟨by rfl, ?_⟩) (by assumption) ?_
        rotate_left
        · intro w hSw; (try dsimp only at hSw); go_simp; try with_reducible rfl
        try simp only [Act.put, List.setIfInBounds_toArray, List.set_cons_zero, List.set_cons_succ]
        refine held_take (i := 5) (v := ?_) rfl (by kernel_rfl) (by kernel_rfl) (by kernel_rfl) (fun _ _ _ h => h) (Or.inl ⟨by rfl, ?_⟩) (by assumption) ?_
        rotate_left
        · intro w hSw; (try dsimp only at hSw); go_simp; try with_reducible rfl
        try simp only [Act.put, List.setIfInBounds_toArray, List.set_cons_zero, List.set_cons_succ]
        refine held_take (i := 6) (v := ?_) rfl (by kernel_rfl) (by kernel_rfl) (by kernel_rfl) (fun _ _ _ h => h) (Or.inl ⟨by rfl, ?_⟩) (by assumption) ?_
        rotate_left
        · intro w hSw; (try dsimp only at hSw); go_simp; try with_reducible rfl
        try simp only [Act.put, List.setIfInBounds_toArray, List.set_cons_zero, List.set_cons_succ]
        refine held_take (i := 7) (v := ?_) rfl (by kernel_rfl) (by kernel_rfl) (by kernel_rfl) (fun _ _ _ h => h) (Or.inl ⟨by rfl, ?_⟩) (by assumption) ?_
        rotate_left
        · intro w hSw; (try dsimp only at hSw); go_simp; try with_reducible rfl
        try simp only [Act.put, List.setIfInBounds_toArray, List.set_cons_zero, List.set_cons_succ]
        refine held_take (i := 8) (v := ?_) rfl (by kernel_rfl) (by kernel_rfl) (by kernel_rfl) (fun _ _ _ h => h) (Or.inl ⟨by rfl, ?_⟩) (by assumption) ?_
        rotate_left
        · intro w hSw; (try dsimp only at hSw); go_simp; try with_reducible rfl
        try simp only [Act.put, List.setIfInBounds_toArray, List.set_cons_zero, List.set_cons_succ]
        refine wpAnyH_done (by kernel_rfl) ?_ _
        clear hHeld
        go_wp2_with fail
        go_meet
        exact ⟨l4.out, rfl⟩
    case rest =>
      obtain ⟨B8, rfl⟩ := hcut
      have tA := t5a.out.below B8
      have tB := t7.out.below B8
      have l8 := l7.out.trans (B8.mono l7.out.size)
      have low8 := B1.out.trans (l8.mono B1.out.size)
      have cd := xdouble_any (fun i => if i = 15 then 128 else 0) (fun i hi => by show (if i = 15 then 128 else 0) < 256; split <;> decide) wc.drew
      have e1 : u8s (tab fun i => if i = 15 then 128 else 0) = #[.int .u8 0, .int .u8 0, .int .u8 0, .int .u8 0, .int .u8 0, .int .u8 0, .int .u8 0, .int .u8 0, .int .u8 0, .int .u8 0, .int .u8 0, .int .u8 0, .int .u8 0, .int .u8 0, .int .u8 0, .int .u8 128] := by kernel_rfl
      have e2 : u8s (tab (dblM fun i => if i = 15 then 128 else 0)) = #[.int .u8 135, .int .u8 0, .int .u8 0, .int .u8 0, .int .u8 0, .int .u8 0, .int .u8 0, .int .u8 0, .int .u8 0, .int .u8 0, .int .u8 0, .int .u8 0, .int .u8 0, .int .u8 0, .int .u8 0, .int .u8 0] := by kernel_rfl
      have q1 := fun (x : World) => cmp16 (dblM fun i => if i = 15 then 128 else 0) (dblM fun i => if i = 15 then 128 else 0) (dblM_lt (fun i hi => by show (if i = 15 then 128 else 0) < 256; split <;> decide)) (dblM_lt (fun i hi => by show (if i = 15 then 128 else 0) < 256; split <;> decide)) x
      rw [e1, e2] at cd
      rw [e2] at q1
      simp only [beq_self_eq_true] at q1
      clear e1 e2
      have hch := run_cut_h (P := Try.prog) Try.underlying29 infoU8s ao 32 cap 16 (by have := hc1.out; omega) 16 rfl
      have hcl := run_cut_l (P := Try.prog) Try.underlying29 infoU8s ao 32 cap 16 (by decide) 16 rfl
      have tH : TextAt wc.drew (.slice ao 16 cap) (T.take 16) := TextAt.cutHi (t := T) (by rw [lT.out]; exact tA.drew) (by rw [lT.out]; decide)
      have tL : TextAt wc.drew (.slice (cutA ao cap 16) (32 - 16) (cap - 16)) (T.drop 16) := by
        have := TextAt.cutLo (t := T) (w := wc.drew) (ao := ao) (cap := cap) (lo := 16) (by rw [lT.out]; exact tA.drew) (by rw [lT.out]; decide)
        rwa [lT.out] at this
      have tBd : TextAt wc.drew v7 (noughts 32) := tB.drew
      have d0 : (T.take 16 == T.drop 16) = false := beq_eq_false_iff_ne.2 enq.out
      have s1 : ∀ x ∈ T.take 16, x < 256 := fun x hx => sT.out x (List.mem_of_mem_take hx)
      have s2 : ∀ x ∈ T.drop 16, x < 256 := fun x hx => sT.out x (List.mem_of_mem_drop hx)
      have d1 := str_lst s1 s2
      have d2 := str_dec s1 s2
      rw [d0] at d1 d2
      clear d0
      replace s1 := Lib.hid s1
      replace s2 := Lib.hid s2
      have low9 := low8.drew
      clear tA tB l8 low8 t7 t5a l7 o7
      replace cd := Lib.hid cd
      replace low9 := Lib.hid low9
      go_wp2_with fail
      refine wp_region_held_drew (S := (fun w' => TextAt w' v7 (noughts 32) ∧ TextAt w' (.slice ao 16 cap) (T.take 16) ∧ TextAt w' (.slice (cutA ao cap 16) (32 - 16) (cap - 16)) (T.drop 16))) (by kernel_rfl) (⟨tBd, tH, tL⟩) (fun hHeld => ?_)
      refine held_take (i := 0) (v := ?_) rfl (by kernel_rfl) (by kernel_rfl) (by kernel_rfl) (fun _ _ _ h => h) (Or.inl ⟨by rfl, ?_⟩) (by assumption) ?_
      rotate_left
      · intro w hSw; (try dsimp only at hSw); go_simp; try with_reducible rfl
      try simp only [Act.put, List.setIfInBounds_toArray, List.set_cons_zero, List.set_cons_succ]
      refine held_take (i := 2) (v := ?_) rfl (by kernel_rfl) (by kernel_rfl) (by kernel_rfl) (fun _ _ _ h => h) (Or.inl ⟨by rfl, ?_⟩) (by assumption) ?_
      rotate_left
      · intro w hSw; (try dsimp only at hSw); go_simp; try with_reducible rfl
      try simp only [Act.put, List.setIfInBounds_toArray, List.set_cons_zero, List.set_cons_succ]
      refine held_ready (i := 1) rfl (by kernel_rfl) (fun K hK => ?_)
      go_simp
      refine cd.out.mono ?_
      rintro e w9 ⟨rfl, B9⟩
      have tB9 := tBd.below B9
      have tH9 := tH.below B9
      have tL9 := tL.below B9
      have low10 := low9.out.trans (B9.mono low9.out.size)
      replace B9 := Lib.hid B9
      replace low10 := Lib.hid low10
      refine hK.out _ _ (⟨tB9, tH9, tL9⟩) (fun hHeldN => ?_)
      clear hHeld hK K
      have hHeld := hHeldN
      clear hHeldN
      try simp only [Act.put, List.setIfInBounds_toArray, List.set_cons_zero, List.set_cons_succ]
      refine held_take (i := 3) (v := ?_) rfl (by kernel_rfl) (by kernel_rfl) (by kernel_rfl) (fun _ _ _ h => h) (Or.inl ⟨by rfl, ?_⟩) (by assumption) ?_
      rotate_left
      · intro w hSw; (try dsimp only at hSw); go_simp; try with_reducible rfl
      try simp only [Act.put, List.setIfInBounds_toArray, List.set_cons_zero, List.set_cons_succ]
      refine held_take (i := 4) (v := ?_) rfl (by kernel_rfl) (by kernel_rfl) (by kernel_rfl) (fun _ _ _ h => h) (Or.inl ⟨by rfl, ?_⟩) (by assumption) ?_
      rotate_left
      · intro w hSw; (try dsimp only at hSw); go_simp; try with_reducible rfl
      try simp only [Act.put, List.setIfInBounds_toArray, List.set_cons_zero, List.set_cons_succ]
      refine held_take (i := 5) (v := ?_) rfl (by kernel_rfl) (by kernel_rfl) (by kernel_rfl) (fun _ _ _ h => h) (Or.inl ⟨by rfl, ?_⟩) (by assumption) ?_
      rotate_left
      · intro w hSw; (try dsimp only at hSw); go_simp; try with_reducible rfl
      try simp only [Act.put, List.setIfInBounds_toArray, List.set_cons_zero, List.set_cons_succ]
      refine held_take (i := 6) (v := ?_) rfl (by kernel_rfl) (by kernel_rfl) (by kernel_rfl) (fun _ _ _ h => h) (Or.inl ⟨by rfl, ?_⟩) (by assumption) ?_
      rotate_left
      · intro w hSw; (try dsimp only at hSw); go_simp; try with_reducible rfl
      try simp only [Act.put, List.setIfInBounds_toArray, List.set_cons_zero, List.set_cons_succ]
      refine held_take (i := 7) (v := ?_) rfl (by kernel_rfl) (by kernel_rfl) (by kernel_rfl) (fun _ _ _ h => h) (Or.inl ⟨by rfl, ?_⟩) (by assumption) ?_
      rotate_left
      · intro w hSw; (try dsimp only at hSw); go_simp; try with_reducible rfl
      try simp only [Act.put, List.setIfInBounds_toArray, List.set_cons_zero, List.set_cons_succ]
      refine held_take (i := 8) (v := ?_) rfl (by kernel_rfl) (by kernel_rfl) (by kernel_rfl) (fun _ _ _ h => h) (Or.inl ⟨by rfl, ?_⟩) (by assumption) ?_
      rotate_left
      · intro w hSw; (try dsimp only at hSw); go_simp; try with_reducible rfl
      try simp only [Act.put, List.setIfInBounds_toArray, List.set_cons_zero, List.set_cons_succ]
      refine held_take (i := 9) (v := ?_) rfl (by kernel_rfl) (by kernel_rfl) (by kernel_rfl) (fun _ _ _ h => h) (Or.inl ⟨by rfl, ?_⟩) (by assumption) ?_
      rotate_left
      · intro w hSw; (try dsimp only at hSw); go_simp; try with_reducible rfl
      try simp only [Act.put, List.setIfInBounds_toArray, List.set_cons_zero, List.set_cons_succ]
      refine held_take (i := 10) (v := ?_) rfl (by kernel_rfl) (by kernel_rfl) (by kernel_rfl) (fun _ _ _ h => h) (Or.inl ⟨by rfl, ?_⟩) (by assumption) ?_
      rotate_left
      · intro w hSw; (try dsimp only at hSw); go_simp; try with_reducible rfl
      try simp only [Act.put, List.setIfInBounds_toArray, List.set_cons_zero, List.set_cons_succ]
      refine held_take (i := 11) (v := ?_) rfl (by kernel_rfl) (by kernel_rfl) (by kernel_rfl) (fun _ _ _ h => h) (Or.inl ⟨by rfl, ?_⟩) (by assumption) ?_
      rotate_left
      · intro w hSw; (try dsimp only at hSw); go_simp; try with_reducible rfl
      try simp only [Act.put, List.setIfInBounds_toArray, List.set_cons_zero, List.set_cons_succ]
      refine held_take (i := 12) (v := ?_) rfl (by kernel_rfl) (by kernel_rfl) (by kernel_rfl) (fun _ _ _ h => h) (Or.inl ⟨by rfl, ?_⟩) (by assumption) ?_
      rotate_left
      · intro w hSw; (try dsimp only at hSw); go_simp; try with_reducible rfl
      try simp only [Act.put, List.setIfInBounds_toArray, List.set_cons_zero, List.set_cons_succ]
      refine held_take (i := 13) (v := ?_) rfl (by kernel_rfl) (by kernel_rfl) (by kernel_rfl) (fun _ _ _ h => h) (Or.inl ⟨by rfl, ?_⟩) (by assumption) ?_
      rotate_left
      · intro w hSw; (try dsimp only at hSw); go_simp; try with_reducible rfl
      try simp only [Act.put, List.setIfInBounds_toArray, List.set_cons_zero, List.set_cons_succ]
      refine held_take (i := 14) (v := ?_) rfl (by kernel_rfl) (by kernel_rfl) (by kernel_rfl) (fun _ _ _ h => h) (Or.inl ⟨by rfl, ?_⟩) (by assumption) ?_
      rotate_left
      · intro w hSw; (try dsimp only at hSw); go_simp; try with_reducible rfl
      try simp only [Act.put, List.setIfInBounds_toArray, List.set_cons_zero, List.set_cons_succ]
      refine held_take (i := 15) (v := ?_) rfl (by kernel_rfl) (by kernel_rfl) (by kernel_rfl) (fun _ _ _ h => h) (Or.inl ⟨by rfl, ?_⟩) (by assumption) ?_
      rotate_left
      · intro w hSw; (try dsimp only at hSw); go_simp; try with_reducible rfl
      try simp only [Act.put, List.setIfInBounds_toArray, List.set_cons_zero, List.set_cons_succ]
      refine held_take (i := 16) (v := ?_) rfl (by kernel_rfl) (by kernel_rfl) (by kernel_rfl) (fun _ _ _ h => h) (Or.inl ⟨by rfl, ?_⟩) (by assumption) ?_
      rotate_left
      · intro w hSw; (try dsimp only at hSw); go_simp; try with_reducible rfl
      try simp only [Act.put, List.setIfInBounds_toArray, List.set_cons_zero, List.set_cons_succ]
      refine held_take (i := 17) (v := ?_) rfl (by kernel_rfl) (by kernel_rfl) (by kernel_rfl) (fun _ _ _ h => h) (Or.inl ⟨by rfl, ?_⟩) (by assumption) ?_
      rotate_left
      · intro w hSw; (try dsimp only at hSw); go_simp; try with_reducible rfl
      try simp only [Act.put, List.setIfInBounds_toArray, List.set_cons_zero, List.set_cons_succ]
      refine held_take (i := 18) (v := ?_) rfl (by kernel_rfl) (by kernel_rfl) (by kernel_rfl) (fun _ _ _ h => h) (Or.inl ⟨by rfl, ?_⟩) (by assumption) ?_
      rotate_left
      · intro w hSw; (try dsimp only at hSw); go_simp; try with_reducible rfl
      try simp only [Act.put, List.setIfInBounds_toArray, List.set_cons_zero, List.set_cons_succ]
      refine held_take (i := 19) (v := _) rfl (by kernel_rfl) (by kernel_rfl) (by kernel_rfl) (fun _ _ _ h => h) (yieldsIf_str (by rfl) rfl rfl (v := v7) (fun w' h => h.1)) (by assumption) ?_
      try simp only [Act.put, List.setIfInBounds_toArray, List.set_cons_zero, List.set_cons_succ]
      have hm := hm32.out
      refine held_ready (i := 20) rfl (by kernel_rfl) (fun K hK => ?_)
      go_simp
      clear hm
      have B10 : Below w9.heap.size w9 (w9.alloc (.cells (u8s (noughts 32)) 5)) := (Below.refl _ _).alloc (Nat.le_refl _) _
      have tN := noughts_text (w := w9) (n := 32) 5
      refine hK.out _ _ (⟨tB9.below B10, tH9.below B10, tL9.below B10⟩) (fun hHeldN => ?_)
      clear hHeld hK K
      have hHeld := hHeldN
      clear hHeldN
      try simp only [Act.put, List.setIfInBounds_toArray, List.set_cons_zero, List.set_cons_succ]
      refine held_ready (i := 21) rfl (by kernel_rfl) (fun K hK => ?_)
      rw [if_pos (by rfl)]
      refine wp_str rfl rfl tN ?_
      refine hK.out _ _ (⟨tB9.below B10, tH9.below B10, tL9.below B10⟩) (fun hHeldN => ?_)
      clear hHeld hK K
      have hHeld := hHeldN
      clear hHeldN
      try simp only [Act.put, List.setIfInBounds_toArray, List.set_cons_zero, List.set_cons_succ]
      refine held_take (i := 22) (v := ?_) rfl (by kernel_rfl) (by kernel_rfl) (by kernel_rfl) (fun _ _ _ h => h) (Or.inl ⟨by rfl, ?_⟩) (by assumption) ?_
      rotate_left
      · intro w hSw; (try dsimp only at hSw); go_simp; try with_reducible rfl
      try simp only [Act.put, List.setIfInBounds_toArray, List.set_cons_zero, List.set_cons_succ]
      refine held_take (i := 23) (v := ?_) rfl (by kernel_rfl) (by kernel_rfl) (by kernel_rfl) (fun _ _ _ h => h) (Or.inl ⟨by rfl, ?_⟩) (by assumption) ?_
      rotate_left
      · intro w hSw; (try dsimp only at hSw); go_simp; try with_reducible rfl
      try simp only [Act.put, List.setIfInBounds_toArray, List.set_cons_zero, List.set_cons_succ]
      refine held_take (i := 24) (v := ?_) rfl (by kernel_rfl) (by kernel_rfl) (by kernel_rfl) (fun _ _ _ h => h) (Or.inl ⟨by rfl, ?_⟩) (by assumption) ?_
      rotate_left
      · intro w hSw; (try dsimp only at hSw); go_simp; try with_reducible rfl
      try simp only [Act.put, List.setIfInBounds_toArray, List.set_cons_zero, List.set_cons_succ]
      refine held_take (i := 25) (v := ?_) rfl (by kernel_rfl) (by kernel_rfl) (by kernel_rfl) (fun _ _ _ h => h) (Or.inl ⟨by rfl, ?_⟩) (by assumption) ?_
      rotate_left
      · intro w hSw; (try dsimp only at hSw); go_simp; try with_reducible rfl
      try simp only [Act.put, List.setIfInBounds_toArray, List.set_cons_zero, List.set_cons_succ]
      refine held_take (i := 26) (v := ?_) rfl (by kernel_rfl) (by kernel_rfl) (by kernel_rfl) (fun _ _ _ h => h) (Or.inl ⟨by rfl, ?_⟩) (by assumption) ?_
      rotate_left
      · intro w hSw; (try dsimp only at hSw); go_simp; try with_reducible rfl
      try simp only [Act.put, List.setIfInBounds_toArray, List.set_cons_zero, List.set_cons_succ]
      refine held_take (i := 27) (v := _) rfl (by kernel_rfl) (by kernel_rfl) (by kernel_rfl) (fun _ _ _ h => h) (yieldsIf_str (by rfl) rfl rfl (v := .slice ao 16 cap) (fun w' h => h.2.1)) (by assumption) ?_
      try simp only [Act.put, List.setIfInBounds_toArray, List.set_cons_zero, List.set_cons_succ]
      refine held_take (i := 28) (v := ?_) rfl (by kernel_rfl) (by kernel_rfl) (by kernel_rfl) (fun _ _ _ h => h) (Or.inl ⟨by rfl, ?_⟩) (by assumption) ?_
      rotate_left
      · intro w hSw; (try dsimp only at hSw); go_simp; try with_reducible rfl
      try simp only [Act.put, List.setIfInBounds_toArray, List.set_cons_zero, List.set_cons_succ]
      refine held_take (i := 29) (v := ?_) rfl (by kernel_rfl) (by kernel_rfl) (by kernel_rfl) (fun _ _ _ h => h) (Or.inl ⟨by rfl, ?_⟩) (by assumption) ?_
      rotate_left
      · intro w hSw; (try dsimp only at hSw); go_simp; try with_reducible rfl
      try simp only [Act.put, List.setIfInBounds_toArray, List.set_cons_zero, List.set_cons_succ]
      refine held_take (i := 30) (v := _) rfl (by kernel_rfl) (by kernel_rfl) (by kernel_rfl) (fun _ _ _ h => h) (yieldsIf_str (by rfl) rfl rfl (v := .slice (cutA ao cap 16) (32 - 16) (cap - 16)) (fun w' h => h.2.2)) (by assumption) ?_
      try simp only [Act.put, List.setIfInBounds_toArray, List.set_cons_zero, List.set_cons_succ]
      refine held_take (i := 31) (v := ?_) rfl (by kernel_rfl) (by kernel_rfl) (by kernel_rfl) (fun _ _ _ h => h) (Or.inl ⟨by rfl, ?_⟩) (by assumption) ?_
      rotate_left
      · intro w hSw; (try dsimp only at hSw); go_simp; try with_reducible rfl
      try simp only [Act.put, List.setIfInBounds_toArray, List.set_cons_zero, List.set_cons_succ]
      refine held_take (i := 32) (v := ?_) rfl (by kernel_rfl) (by kernel_rfl) (by kernel_rfl) (fun _ _ _ h => h) (Or.inl ⟨by rfl, ?_⟩) (by assumption) ?_
      rotate_left
      · intro w hSw; (try dsimp only at hSw); go_simp; try with_reducible rfl
      try simp only [Act.put, List.setIfInBounds_toArray, List.set_cons_zero, List.set_cons_succ]
      refine held_take (i := 33) (v := ?_) rfl (by kernel_rfl) (by kernel_rfl) (by kernel_rfl) (fun _ _ _ h => h) (Or.inl ⟨by rfl, ?_⟩) (by assumption) ?_
      rotate_left
      · intro w hSw; (try dsimp only at hSw); go_simp; try with_reducible rfl
      try simp only [Act.put, List.setIfInBounds_toArray, List.set_cons_zero, List.set_cons_succ]
      refine held_take (i := 34) (v := ?_) rfl (by kernel_rfl) (by kernel_rfl) (by kernel_rfl) (fun _ _ _ h => h) (Or.inl ⟨by rfl, ?_⟩) (by assumption) ?_
      rotate_left
      · intro w hSw; (try dsimp only at hSw); go_simp; try with_reducible rfl
      try simp only [Act.put, List.setIfInBounds_toArray, List.set_cons_zero, List.set_cons_succ]
      refine held_take (i := 35) (v := ?_) rfl (by kernel_rfl) (by kernel_rfl) (by kernel_rfl) (fun _ _ _ h => h) (Or.inl ⟨by rfl, ?_⟩) (by assumption) ?_
      rotate_left
      · intro w hSw; (try dsimp only at hSw); go_simp; try with_reducible rfl
      try simp only [Act.put, List.setIfInBounds_toArray, List.set_cons_zero, List.set_cons_succ]
      refine held_take (i := 36) (v := ?_) rfl (by kernel_rfl) (by kernel_rfl) (by kernel_rfl) (fun _ _ _ h => h) (Or.inl ⟨by rfl, ?_⟩) (by assumption) ?_
      rotate_left
      · intro w hSw; (try dsimp only at hSw); go_simp; try with_reducible rfl
      try simp only [Act.put, List.setIfInBounds_toArray, List.set_cons_zero, List.set_cons_succ]
      refine held_take (i := 37) (v := ?_) rfl (by kernel_rfl) (by kernel_rfl) (by kernel_rfl) (fun _ _ _ h => h) (Or.inl ⟨by rfl, ?_⟩) (by assumption) ?_
      rotate_left
      · intro w hSw; (try dsimp only at hSw); go_simp; try with_reducible rfl
      try simp only [Act.put, List.setIfInBounds_toArray, List.set_cons_zero, List.set_cons_succ]
      refine wpAnyH_done (by kernel_rfl) ?_ _
      clear hHeld
      go_wp2_with fail
      go_ret
      exact ⟨rfl, low10.out.alloc low10.out.size _⟩
end Go.Proofs.Ytnadgjlmlnhknaa
