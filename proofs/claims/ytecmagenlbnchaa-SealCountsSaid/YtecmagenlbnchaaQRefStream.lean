/-
  hmac's Derive; Expand of too many bytes. Conditions: the name is not too long.
  The reference of layer 3: Mac, Stream, Expand, Derive. Conditions: texts not too long.
  The reference of layer 3: Stream, Expand, Derive. Conditions: texts not too long.
-/
import Derived.Test.YtecmagenlbnchaaQHmacExpand
import Derived.Test.YtecmagenlbnchaaQStrBytes
import Derived.Laws.Cover3
import Derived.Test.YtecmagenlbnchaaQRefSumS
namespace Go.Proofs.Ytecmagenlbnchaa
set_option maxRecDepth 100000
open Go.RowKit

theorem TextAt.range {w : World} {ob oo n cap : Nat} {t : List Nat} (h : TextAt w (.slice (some ⟨ob, oo, none⟩) n cap) t) : w.rangeAt ob oo (u8l t) := fun j v hj => by
  have hjt : j < t.length := by
    have := (List.getElem?_eq_some_iff.1 hj).1
    simpa [u8l] using this
  obtain ⟨ao, cap', e, _, _, h3⟩ := h.ex
  cases e
  obtain ⟨_, ob', oo', e, hc⟩ := h3 j hjt
  cases e
  rw [hc, ← hj]
  simp [u8l, byt, List.getD, hjt]
theorem TextAt.form {w : World} {v : Value} {t : List Nat} (h : TextAt w v t) : ∃ a c, v = .slice a t.length c := by
  obtain ⟨ao, cap', e, _, _, _⟩ := h.ex
  exact ⟨_, _, e⟩
theorem TextAt.addr {w : World} {a : Option Addr} {n c : Nat} {t : List Nat} (h : TextAt w (.slice a n c) t) (h0 : 0 < t.length) : ∃ ob oo, a = some ⟨ob, oo, none⟩ := by
  obtain ⟨ao, cap', e, _, _, h3⟩ := h.ex
  cases e
  obtain ⟨_, ob, oo, e, _⟩ := h3 0 h0
  exact ⟨ob, oo, e⟩

theorem name_code {P : Program} {c : Code} {Q : Exit → Act → World → Prop} {a : Act} {w : World} (h : ∀ w1, Hid (w1 = w) → c.wp P Q a w1) : c.wp P Q a w := h w rfl
set_option maxRecDepth 100000 in
theorem expand_neg (w : World) (key : List Nat) (name : Value) (n : Int) (h : n < 0) :
    Calls Try.prog 75 #[.agg (u8s key), name, .int .i64 n] w fun e w' => e = .returned (.tuple #[.slice none 0 0, .int .i64 1]) ∧ Below w.heap.size w w' := by
  go_enter Try.func75, Try.ntmps75
  go_wp2_with fail
  go_step3
  go_wp2_with fail
  (first | go_ret2 | (rw [Exit.noGoto_ret]; go_ret2))
  exact ⟨rfl, (Below.refl _ _).alloc (Nat.le_refl _) _⟩
set_option maxRecDepth 100000 in
theorem expand_long (w : World) (key : List Nat) (name : Value) (n : Int) (h : 8160 < n) :
    Calls Try.prog 75 #[.agg (u8s key), name, .int .i64 n] w fun e w' => e = .returned (.tuple #[.slice none 0 0, .int .i64 2]) ∧ Below w.heap.size w w' := by
  have h0 : ¬ n < 0 := by omega
  go_enter Try.func75, Try.ntmps75
  go_wp2_with fail
  go_step3
  go_wp2_with fail
  (first | go_ret2 | (rw [Exit.noGoto_ret]; go_ret2))
  exact ⟨rfl, (Below.refl _ _).alloc (Nat.le_refl _) _⟩

set_option maxRecDepth 100000 in
set_option maxHeartbeats 4000000 in
theorem derive_any (w : World) (key : List Nat) (s : ByteArray) (v : Nat) (kl : key.length = 32) (ks : ∀ x ∈ key, x < 256) (hs : s.size < 900000) :
    Calls Try.prog 48 #[.agg (u8s key), .string s, .int .u64 (v : Int)] w fun e w' => e = .returned (.agg (u8s (macs key (textOf s ++ beBytes 8 v ++ [1])))) ∧ Below w.heap.size w w' := by
  have iK := info_key key kl
  have iM := info_key (macs key (textOf s ++ beBytes 8 v ++ [1])) (macs_length _ _)
  have hu49 : Try.prog.underlying 23 = some (.array 32 5) := Try.underlying23
  replace kl := Lib.hid kl
  replace ks := Lib.hid ks
  replace iK := Lib.hid iK
  replace iM := Lib.hid iM
  replace hu49 := Lib.hid hu49
  go_enter Try.func48, Try.ntmps48
  go_wp2_with fail
  refine name_code ?_; intro W0 hW
  have kx : RowB W0 w.heap.size 23 key := by rw [hW.out]; exact alloc_row (heap_alloc_new _ _)
  have r0 : RowB W0 (w.heap.size + 1) 23 (List.replicate 32 0) := by rw [hW.out]; exact alloc_at (by simp)
  have h0 : Below w.heap.size w W0 := by rw [hW.out]; exact ((Below.refl _ _).alloc (Nat.le_refl _) _).alloc (by simp) _
  have ltk := kx.lt
  have ltr := r0.lt
  have kx0 : RowB W0.drew w.heap.size 23 key := kx
  have b0 : Below W0.heap.size W0 W0.drew := (Below.refl _ _).drew
  replace kx := Lib.hid kx
  replace r0 := Lib.hid r0
  replace h0 := Lib.hid h0
  replace kx0 := Lib.hid kx0
  replace b0 := Lib.hid b0
  clear hW
  refine wp_region_held_drew (S := (fun w' => RowB w' w.heap.size 23 key)) (by kernel_rfl) (kx0.out) (fun hHeld => ?_)
  refine held_take (i := 0) (v := _) rfl (by kernel_rfl) (by kernel_rfl) (by kernel_rfl) (fun _ _ _ h => h) (yieldsIf_row (by rfl) rfl rfl Try.underlying23 iK.out (fun w' h => h)) (by assumption) ?_
  try simp only [Act.put, List.setIfInBounds_toArray, List.set_cons_zero, List.set_cons_succ]
  refine held_take (i := 1) (v := ?_) rfl (by kernel_rfl) (by kernel_rfl) (by kernel_rfl) (fun _ _ _ h => h) (Or.inl ⟨by rfl, ?_⟩) (by assumption) ?_
  rotate_left
  · intro w hSw; (try dsimp only at hSw); go_simp; try with_reducible rfl
  try simp only [Act.put, List.setIfInBounds_toArray, List.set_cons_zero, List.set_cons_succ]
  refine held_take (i := 3) (v := ?_) rfl (by kernel_rfl) (by kernel_rfl) (by kernel_rfl) (fun _ _ _ h => h) (Or.inl ⟨by rfl, ?_⟩) (by assumption) ?_
  rotate_left
  · intro w hSw; (try dsimp only at hSw); go_simp; try with_reducible rfl
  try simp only [Act.put, List.setIfInBounds_toArray, List.set_cons_zero, List.set_cons_succ]
  refine held_ready2 (i := 2) (j := 4) rfl rfl (by kernel_rfl) (fun K hK => ?_) (fun K hK => ?_)
  · rw [if_pos (by rfl)]
    refine wp_conv_bytes (.tmp 11) rfl s rfl ?_; intro c1 w1 O1 B1
    have kx1 : RowB w1 w.heap.size 23 key := kx0.out.other (B1.out.block _ ltk)
    have b1 : Below W0.heap.size W0 w1 := b0.out.trans B1.out
    have sb1 := b1.size
    have pt := put64 w1 v
    replace kx1 := Lib.hid kx1
    replace b1 := Lib.hid b1
    replace pt := Lib.hid pt
    refine hK.out _ _ (kx1.out) (fun hHeldN => ?_)
    clear hHeld hK K
    have hHeld := hHeldN
    clear hHeldN
    try simp only [Act.put, List.setIfInBounds_toArray, List.set_cons_zero, List.set_cons_succ]
    refine held_ready (i := 4) rfl (by kernel_rfl) (fun K hK => ?_)
    go_simp
    refine pt.out.mono ?_
    rintro e w2 ⟨rfl, P2, B2⟩
    have kx2 : RowB w2 w.heap.size 23 key := kx1.out.other (B2.block _ kx1.out.lt)
    have b2 : Below W0.heap.size W0 w2 := b1.out.trans (B2.mono sb1)
    have O2 := O1.out.below B2
    have T2 := P2.text (beBytes_lt 8 v) (length_beBytes 8 v)
    replace kx2 := Lib.hid kx2
    replace b2 := Lib.hid b2
    replace O2 := Lib.hid O2
    replace T2 := Lib.hid T2
    replace P2 := Lib.hid P2
    replace B2 := Lib.hid B2
    refine hK.out _ _ (kx2.out) (fun hHeldN => ?_)
    clear hHeld hK K
    have hHeld := hHeldN
    clear hHeldN
    try simp only [Act.put, List.setIfInBounds_toArray, List.set_cons_zero, List.set_cons_succ]
    refine held_ready (i := 5) rfl (by kernel_rfl) (fun K hK => ?_)
    rw [if_pos (by rfl)]
    refine wp_append_f (.tmp 12) (.tmp 14) rfl W0.heap.size W0 _ (textOf s) rfl O2.out b2.out _ (beBytes 8 v) rfl T2.out (by rw [textOf_length, length_beBytes]; omega) ?_
    intro v3 w3 tv hv
    have sv := hv.out.size
    obtain ⟨an, cn, en⟩ := tv.out.form
    have tvl : (textOf s ++ beBytes 8 v).length < 1000000 := by rw [List.length_append, textOf_length, length_beBytes]; omega
    have tvs := tv.out.small
    obtain ⟨nm, hnm⟩ : ∃ nm, nm = textOf s ++ beBytes 8 v := ⟨_, rfl⟩
    rw [← hnm] at en tvl tvs
    have tv' : TextAt w3 v3 nm := by rw [hnm]; exact tv.out
    obtain ⟨nl, hnl⟩ : ∃ nl, nl = nm.length := ⟨_, rfl⟩
    rw [← hnl] at en tvl
    subst en
    have ex := expand_any w3 key an nl cn nm 32 kl.out ks.out tv' hnl.symm tvl (by decide)
    rw [show ((32 : Nat) : Int) = 32 from rfl, expandOf_first] at ex
    have kx3 : RowB w3 w.heap.size 23 key := kx.out.other (hv.out.block _ ltk)
    replace tv := Lib.hid tv
    replace tv' := Lib.hid tv'
    replace hnm := Lib.hid hnm
    replace hnl := Lib.hid hnl
    replace tvs := Lib.hid tvs
    replace kx3 := Lib.hid kx3
    replace ex := Lib.hid ex
    refine hK.out _ _ (kx3.out) (fun hHeldN => ?_)
    clear hHeld hK K
    have hHeld := hHeldN
    clear hHeldN
    try simp only [Act.put, List.setIfInBounds_toArray, List.set_cons_zero, List.set_cons_succ]
    refine held_ready (i := 6) rfl (by kernel_rfl) (fun K hK => ?_)
    go_simp
    refine ex.out.mono ?_
    rintro e w4 ⟨a4, rfl, T4, B4⟩
    have kx4 : RowB w4 w.heap.size 23 key := kx3.out.other (B4.block _ kx3.out.lt)
    have R4 : RowB w4 (w.heap.size + 1) 23 (List.replicate 32 0) := RowB.other (r0.out.other (hv.out.block _ ltr)) (B4.block _ (by omega))
    have h4 : Below w.heap.size w w4 := (h0.out.trans (hv.out.mono h0.out.size)).trans (B4.mono (by have := h0.out.size; omega))
    obtain ⟨ob, oo, rfl⟩ := T4.addr (by rw [macs_length]; decide)
    have Rg := T4.range
    have eM : u8s (macs key (nm ++ [1])) = (u8l (macs key (nm ++ [1]))).toArray := rfl
    have iM4 : (Try.prog.info? 23).map (·.size) = some (u8s (macs key (nm ++ [1]))).size := by rw [hnm.out]; exact iM.out
    have ml : (u8s (macs key (nm ++ [1]))).size = 32 := len_macs _ _
    have ml' : (u8l (macs key (nm ++ [1]))).length = 32 := by rw [← ml]; simp [u8l, u8s]
    replace kx4 := Lib.hid kx4
    replace R4 := Lib.hid R4
    replace h4 := Lib.hid h4
    replace T4 := Lib.hid T4
    replace Rg := Lib.hid Rg
    replace eM := Lib.hid eM
    replace iM4 := Lib.hid iM4
    replace ml := Lib.hid ml
    replace ml' := Lib.hid ml'
    replace B4 := Lib.hid B4
    refine hK.out _ _ (kx4.out) (fun hHeldN => ?_)
    clear hHeld hK K
    have hHeld := hHeldN
    clear hHeldN
    try simp only [Act.put, List.setIfInBounds_toArray, List.set_cons_zero, List.set_cons_succ]
    refine held_take (i := 7) (v := ?_) rfl (by kernel_rfl) (by kernel_rfl) (by kernel_rfl) (fun _ _ _ h => h) (Or.inl ⟨by rfl, ?_⟩) (by assumption) ?_
    rotate_left
    · intro w hSw; (try dsimp only at hSw); go_simp; try with_reducible rfl
    try simp only [Act.put, List.setIfInBounds_toArray, List.set_cons_zero, List.set_cons_succ]
    refine held_take (i := 8) (v := ?_) rfl (by kernel_rfl) (by kernel_rfl) (by kernel_rfl) (fun _ _ _ h => h) (Or.inl ⟨by rfl, ?_⟩) (by assumption) ?_
    rotate_left
    · intro w hSw; (try dsimp only at hSw); go_simp; try with_reducible rfl
    try simp only [Act.put, List.setIfInBounds_toArray, List.set_cons_zero, List.set_cons_succ]
    refine held_take (i := 9) (v := ?_) rfl (by kernel_rfl) (by kernel_rfl) (by kernel_rfl) (fun _ _ _ h => h) (Or.inl ⟨by rfl, ?_⟩) (by assumption) ?_
    rotate_left
    · intro w hSw; (try dsimp only at hSw); go_simp; try with_reducible rfl
    try simp only [Act.put, List.setIfInBounds_toArray, List.set_cons_zero, List.set_cons_succ]
    refine held_take (i := 10) (v := ?_) rfl (by kernel_rfl) (by kernel_rfl) (by kernel_rfl) (fun _ _ _ h => h) (Or.inl ⟨by rfl, ?_⟩) (by assumption) ?_
    rotate_left
    · intro w hSw; (try dsimp only at hSw); go_simp; try with_reducible rfl
    try simp only [Act.put, List.setIfInBounds_toArray, List.set_cons_zero, List.set_cons_succ]
    refine held_take (i := 11) (v := ?_) rfl (by kernel_rfl) (by kernel_rfl) (by kernel_rfl) (fun _ _ _ h => h) (Or.inl ⟨by rfl, ?_⟩) (by assumption) ?_
    rotate_left
    · intro w hSw; (try dsimp only at hSw); go_simp; try with_reducible rfl
    try simp only [Act.put, List.setIfInBounds_toArray, List.set_cons_zero, List.set_cons_succ]
    refine wpAnyH_done (by kernel_rfl) ?_ _
    clear hHeld
    have hat : ∀ x : World, (Instr.arrayAt 23 (.slice (some ⟨ob, oo, none⟩) 32 32)).run Try.prog x = .ok (.pointer (some ⟨ob, oo, none⟩)) x := fun x => run_arrayAt x 23 5 32 (some ⟨ob, oo, none⟩) 32 32 Try.underlying23 (Nat.le_refl _)
    go_wp2_with (first
      | (refine wpList_load_mid rfl 23 (.tmp 20) rfl ob oo rfl (u8l (macs key (nm ++ [1]))) _ Rg.out hu49.out rfl (by rw [iM4.out, ml.out, ml'.out]) ?_)
      | (refine wpList_store_s (by rfl) 23 (.tmp 6) (.tmp 21) rfl (w.heap.size + 1) (macs key (nm ++ [1])) rfl rfl 23 _ R4.out iM4.out (by rw [ml.out]; rfl) ?_; intro w5 R5 U5))
    refine ret_row rfl rfl (w.heap.size + 1) 23 _ (0, 0) _ rfl R5.out Try.underlying23 rfl iM4.out ⟨by rw [hnm.out], ?_⟩
    exact h4.out.trans (U5.out.below (fun k hk e => by omega) h4.out.size)
  · go_simp
    have pt := put64 W0.drew v
    replace pt := Lib.hid pt
    refine pt.out.mono ?_
    rintro e w1 ⟨rfl, P1, B1⟩
    have kx1 : RowB w1 w.heap.size 23 key := kx0.out.other (B1.block _ ltk)
    have b1 : Below W0.heap.size W0 w1 := b0.out.trans B1
    have sb1 := b1.size
    replace kx1 := Lib.hid kx1
    replace b1 := Lib.hid b1
    replace P1 := Lib.hid P1
    replace B1 := Lib.hid B1
    refine hK.out _ _ (kx1.out) (fun hHeldN => ?_)
    clear hHeld hK K
    have hHeld := hHeldN
    clear hHeldN
    try simp only [Act.put, List.setIfInBounds_toArray, List.set_cons_zero, List.set_cons_succ]
    refine held_ready (i := 2) rfl (by kernel_rfl) (fun K hK => ?_)
    rw [if_pos (by rfl)]
    refine wp_conv_bytes (.tmp 11) rfl s rfl ?_; intro c1 w2 O1 B2
    have kx2 : RowB w2 w.heap.size 23 key := kx1.out.other (B2.out.block _ kx1.out.lt)
    have b2 : Below W0.heap.size W0 w2 := b1.out.trans (B2.out.mono sb1)
    have O2 := O1.out.weaken sb1
    have T2 := (P1.out.text (beBytes_lt 8 v) (length_beBytes 8 v)).below B2.out
    replace kx2 := Lib.hid kx2
    replace b2 := Lib.hid b2
    replace O2 := Lib.hid O2
    replace T2 := Lib.hid T2
    refine hK.out _ _ (kx2.out) (fun hHeldN => ?_)
    clear hHeld hK K
    have hHeld := hHeldN
    clear hHeldN
    try simp only [Act.put, List.setIfInBounds_toArray, List.set_cons_zero, List.set_cons_succ]
    refine held_ready (i := 5) rfl (by kernel_rfl) (fun K hK => ?_)
    rw [if_pos (by rfl)]
    refine wp_append_f (.tmp 12) (.tmp 14) rfl W0.heap.size W0 _ (textOf s) rfl O2.out b2.out _ (beBytes 8 v) rfl T2.out (by rw [textOf_length, length_beBytes]; omega) ?_
    intro v3 w3 tv hv
    have sv := hv.out.size
    obtain ⟨an, cn, en⟩ := tv.out.form
    have tvl : (textOf s ++ beBytes 8 v).length < 1000000 := by rw [List.length_append, textOf_length, length_beBytes]; omega
    have tvs := tv.out.small
    obtain ⟨nm, hnm⟩ : ∃ nm, nm = textOf s ++ beBytes 8 v := ⟨_, rfl⟩
    rw [← hnm] at en tvl tvs
    have tv' : TextAt w3 v3 nm := by rw [hnm]; exact tv.out
    obtain ⟨nl, hnl⟩ : ∃ nl, nl = nm.length := ⟨_, rfl⟩
    rw [← hnl] at en tvl
    subst en
    have ex := expand_any w3 key an nl cn nm 32 kl.out ks.out tv' hnl.symm tvl (by decide)
    rw [show ((32 : Nat) : Int) = 32 from rfl, expandOf_first] at ex
    have kx3 : RowB w3 w.heap.size 23 key := kx.out.other (hv.out.block _ ltk)
    replace tv := Lib.hid tv
    replace tv' := Lib.hid tv'
    replace hnm := Lib.hid hnm
    replace hnl := Lib.hid hnl
    replace tvs := Lib.hid tvs
    replace kx3 := Lib.hid kx3
    replace ex := Lib.hid ex
    refine hK.out _ _ (kx3.out) (fun hHeldN => ?_)
    clear hHeld hK K
    have hHeld := hHeldN
    clear hHeldN
    try simp only [Act.put, List.setIfInBounds_toArray, List.set_cons_zero, List.set_cons_succ]
    refine held_ready (i := 6) rfl (by kernel_rfl) (fun K hK => ?_)
    go_simp
    refine ex.out.mono ?_
    rintro e w4 ⟨a4, rfl, T4, B4⟩
    have kx4 : RowB w4 w.heap.size 23 key := kx3.out.other (B4.block _ kx3.out.lt)
    have R4 : RowB w4 (w.heap.size + 1) 23 (List.replicate 32 0) := RowB.other (r0.out.other (hv.out.block _ ltr)) (B4.block _ (by omega))
    have h4 : Below w.heap.size w w4 := (h0.out.trans (hv.out.mono h0.out.size)).trans (B4.mono (by have := h0.out.size; omega))
    obtain ⟨ob, oo, rfl⟩ := T4.addr (by rw [macs_length]; decide)
    have Rg := T4.range
    have eM : u8s (macs key (nm ++ [1])) = (u8l (macs key (nm ++ [1]))).toArray := rfl
    have iM4 : (Try.prog.info? 23).map (·.size) = some (u8s (macs key (nm ++ [1]))).size := by rw [hnm.out]; exact iM.out
    have ml : (u8s (macs key (nm ++ [1]))).size = 32 := len_macs _ _
    have ml' : (u8l (macs key (nm ++ [1]))).length = 32 := by rw [← ml]; simp [u8l, u8s]
    replace kx4 := Lib.hid kx4
    replace R4 := Lib.hid R4
    replace h4 := Lib.hid h4
    replace T4 := Lib.hid T4
    replace Rg := Lib.hid Rg
    replace eM := Lib.hid eM
    replace iM4 := Lib.hid iM4
    replace ml := Lib.hid ml
    replace ml' := Lib.hid ml'
    replace B4 := Lib.hid B4
    refine hK.out _ _ (kx4.out) (fun hHeldN => ?_)
    clear hHeld hK K
    have hHeld := hHeldN
    clear hHeldN
    try simp only [Act.put, List.setIfInBounds_toArray, List.set_cons_zero, List.set_cons_succ]
    refine held_take (i := 7) (v := ?_) rfl (by kernel_rfl) (by kernel_rfl) (by kernel_rfl) (fun _ _ _ h => h) (Or.inl ⟨by rfl, ?_⟩) (by assumption) ?_
    rotate_left
    · intro w hSw; (try dsimp only at hSw); go_simp; try with_reducible rfl
    try simp only [Act.put, List.setIfInBounds_toArray, List.set_cons_zero, List.set_cons_succ]
    refine held_take (i := 8) (v := ?_) rfl (by kernel_rfl) (by kernel_rfl) (by kernel_rfl) (fun _ _ _ h => h) (Or.inl ⟨by rfl, ?_⟩) (by assumption) ?_
    rotate_left
    · intro w hSw; (try dsimp only at hSw); go_simp; try with_reducible rfl
    try simp only [Act.put, List.setIfInBounds_toArray, List.set_cons_zero, List.set_cons_succ]
    refine held_take (i := 9) (v := ?_) rfl (by kernel_rfl) (by kernel_rfl) (by kernel_rfl) (fun _ _ _ h => h) (Or.inl ⟨by rfl, ?_⟩) (by assumption) ?_
    rotate_left
    · intro w hSw; (try dsimp only at hSw); go_simp; try with_reducible rfl
    try simp only [Act.put, List.setIfInBounds_toArray, List.set_cons_zero, List.set_cons_succ]
    refine held_take (i := 10) (v := ?_) rfl (by kernel_rfl) (by kernel_rfl) (by kernel_rfl) (fun _ _ _ h => h) (Or.inl ⟨by rfl, ?_⟩) (by assumption) ?_
    rotate_left
    · intro w hSw; (try dsimp only at hSw); go_simp; try with_reducible rfl
    try simp only [Act.put, List.setIfInBounds_toArray, List.set_cons_zero, List.set_cons_succ]
    refine held_take (i := 11) (v := ?_) rfl (by kernel_rfl) (by kernel_rfl) (by kernel_rfl) (fun _ _ _ h => h) (Or.inl ⟨by rfl, ?_⟩) (by assumption) ?_
    rotate_left
    · intro w hSw; (try dsimp only at hSw); go_simp; try with_reducible rfl
    try simp only [Act.put, List.setIfInBounds_toArray, List.set_cons_zero, List.set_cons_succ]
    refine wpAnyH_done (by kernel_rfl) ?_ _
    clear hHeld
    have hat : ∀ x : World, (Instr.arrayAt 23 (.slice (some ⟨ob, oo, none⟩) 32 32)).run Try.prog x = .ok (.pointer (some ⟨ob, oo, none⟩)) x := fun x => run_arrayAt x 23 5 32 (some ⟨ob, oo, none⟩) 32 32 Try.underlying23 (Nat.le_refl _)
    go_wp2_with (first
      | (refine wpList_load_mid rfl 23 (.tmp 20) rfl ob oo rfl (u8l (macs key (nm ++ [1]))) _ Rg.out hu49.out rfl (by rw [iM4.out, ml.out, ml'.out]) ?_)
      | (refine wpList_store_s (by rfl) 23 (.tmp 6) (.tmp 21) rfl (w.heap.size + 1) (macs key (nm ++ [1])) rfl rfl 23 _ R4.out iM4.out (by rw [ml.out]; rfl) ?_; intro w5 R5 U5))
    refine ret_row rfl rfl (w.heap.size + 1) 23 _ (0, 0) _ rfl R5.out Try.underlying23 rfl iM4.out ⟨by rw [hnm.out], ?_⟩
    exact h4.out.trans (U5.out.below (fun k hk e => by omega) h4.out.size)

end Go.Proofs.Ytecmagenlbnchaa
namespace Go.Proofs.Ytecmagenlbnchaa
set_option maxRecDepth 100000
open Go.RowKit

theorem padBy_take (b : Nat) (K : List Nat) {k : Nat} (hk : k < 64) : (padBy b K).take (k + 1) = (padBy b K).take k ++ [byt K k ^^^ b] := by
  rw [List.take_add_one]
  congr 1
  simp [padBy, hk]
theorem byt_beyond {K : List Nat} {k : Nat} (h : K.length ≤ k) : byt K k = 0 := by
  unfold byt
  rw [List.getD, List.getElem?_eq_none h]
  rfl
/-- Two rows that the call owns are not one. -/
def ApartM (u v : Value) : Prop := ∀ g, u.ownBlock = some g → v.ownBlock ≠ some g
theorem Own.keep {w w' : World} {base : Nat} {e : TypeId} {u v : Value} {xs : List Value} (h : Own w base e v xs) (hg : w.grownBy w' u.ownBlock) (ha : ApartM u v) : Own w' base e v xs :=
  h.other fun k hk => hg.block k (h.lt k hk).2 fun e => ha k e.symm hk
theorem ApartM.symm {u v : Value} (h : ApartM u v) : ApartM v u := fun g h1 h2 => h g h2 h1
theorem ApartM.grow {w : World} {base : Nat} {e : TypeId} {u u' v : Value} {xs : List Value} (h : ApartM u v) (hv : Own w base e v xs) (hu : u'.ownBlock = u.ownBlock ∨ u'.ownBlock = some w.heap.size) : ApartM u' v := fun g h1 h2 => by
  rcases hu with hu | hu
  · rw [hu] at h1; exact h g h1 h2
  · rw [hu] at h1
    cases h1
    have := (hv.lt _ h2).2
    omega

set_option maxRecDepth 100000 in
set_option maxHeartbeats 4000000 in
theorem ref_mac (w : World) (vk vt : Value) (key t : List Nat) (hk : TextAt w vk key) (ht : TextAt w vt t) (h1 : key.length < 900000) (h2 : t.length < 900000) :
    Calls Try.prog 74 #[vk, vt] w fun e w' => ∃ v', e = .returned v' ∧ Own w' w.heap.size 5 v' (u8l (macs key t)) ∧ Below w.heap.size w w' := by
  have ksm := hk.small
  have tsm := ht.small
  have sk := Lib.hid (ref_sum w vk key hk (by omega))
  obtain ⟨ak, ck, rfl, p1, p2, p3⟩ := hk.ex
  obtain ⟨at_, ct, rfl, q1, q2, q3⟩ := ht.ex
  obtain ⟨n, hn⟩ : ∃ n, n = key.length := ⟨_, rfl⟩
  obtain ⟨m, hm⟩ : ∃ m, m = t.length := ⟨_, rfl⟩
  rw [← hn] at hk h1 p1 p3 sk ⊢
  rw [← hm] at ht h2 q1 q3 ⊢
  have mac_eq : sumOf (padBy 92 (hkey key) ++ sumOf (padBy 54 (hkey key) ++ t)) = macs key t := rfl
  have hkl := hkey_le key
  have hks := hkey_small ksm
  generalize hKK : hkey key = KK at *
  replace hk := Lib.hid hk
  replace ht := Lib.hid ht
  replace hn := Lib.hid hn
  replace hm := Lib.hid hm
  replace p2 := Lib.hid p2
  replace p3 := Lib.hid p3
  replace q2 := Lib.hid q2
  replace q3 := Lib.hid q3
  replace ksm := Lib.hid ksm
  replace tsm := Lib.hid tsm
  replace mac_eq := Lib.hid mac_eq
  replace hks := Lib.hid hks
  replace hKK := Lib.hid hKK
  have d64 : (64 : Int) < (n : Int) ∨ ¬ (64 : Int) < (n : Int) := by omega
  rcases d64 with d64 | d64
  · have ek : KK = sumOf key := by rw [← hKK.out]; unfold hkey; rw [if_pos (by rw [← hn.out]; omega)]
    go_enter Try.func74, Try.ntmps74
    go_wp2_with fail
    refine sk.out.mono ?_
    rintro e wx ⟨vx, rfl, Ox, Bx⟩
    have Tx := Ox.text (sumOf_lt key)
    rw [← ek] at Tx
    have Ty := ht.out.below Bx
    obtain ⟨ax, cx, ex⟩ := Tx.form
    obtain ⟨nk, enk⟩ : ∃ nk, nk = KK.length := ⟨_, rfl⟩
    rw [← enk] at ex
    subst ex
    have enk := enk.symm
    replace ek := Lib.hid ek
    replace Ox := Lib.hid Ox
    replace Bx := Lib.hid Bx
    replace Tx := Lib.hid Tx
    replace Ty := Lib.hid Ty
    replace enk := Lib.hid enk
    go_wp2_with fail
    obtain ⟨wo, rfl⟩ : ∃ wo : World, wo = wx := ⟨_, rfl⟩
    have swo := Bx.out.size
    have g3x := Tx.out.ex
    replace g3x := Lib.hid g3x
    go_loopw [5, 6, 7] (fun vi vo i wr => ∃ k : Nat, k ≤ 64 ∧ i = .int .i64 k ∧ Own wr wo.heap.size 5 vi (u8l ((padBy 54 KK).take k)) ∧ Own wr wo.heap.size 5 vo (u8l ((padBy 92 KK).take k)) ∧ ApartM vi vo ∧ Below wo.heap.size wo wr) (fun _ _ i _ => 64 - (intOf i).toNat)
    case atStart => exact ⟨0, Nat.zero_le _, rfl, Own.nil _ _ _, Own.nil _ _ _, fun g hg => by simp [Value.ownBlock] at hg, Below.refl _ _⟩
    case round =>
      obtain ⟨k, hk', rfl, hI, hO, hA, hB⟩ := hrel
      by_cases hlt : k < 64
      · have e54 := padBy_take 54 KK hlt
        have e92 := padBy_take 92 KK hlt
        have li : (u8l ((padBy 54 KK).take k)).length + 1 ≤ 1000000000 := by simp [u8l]; omega
        have lo : (u8l ((padBy 92 KK).take k)).length + 1 ≤ 1000000000 := by simp [u8l]; omega
        have hsb := hB.size
        have hc : ((k : Int) < (nk : Int) ∧ ∃ ob oo, ax = some ⟨ob, oo, none⟩ ∧ wr.cell? ⟨ob, oo + k, none⟩ = some (.int .u8 (byt KK k : Nat))) ∨ (¬ ((k : Int) < (nk : Int)) ∧ byt KK k = 0) := by
          by_cases hkn : k < nk
          · obtain ⟨ao', cap', e, _, _, h3⟩ := g3x.out
            cases e
            obtain ⟨_, ob, oo, e, hc⟩ := h3 k (by rw [enk.out]; exact hkn)
            exact .inl ⟨by omega, ob, oo, e, (hB.cell (block_lt_of_cell hc)).trans hc⟩
          · exact .inr ⟨by omega, byt_beyond (by rw [enk.out]; omega)⟩
        have hb8 : byt KK k < 256 := byt_lt hks.out k
        generalize byt KK k = c at *
        have x1 := u8_xor_nat c 54 hb8 (by decide)
        have x2 := u8_xor_nat c 92 hb8 (by decide)
        rw [show ((54 : Nat) : Int) = 54 from rfl] at x1
        rw [show ((92 : Nat) : Int) = 92 from rfl] at x2
        have y1 : c ^^^ 54 < 256 := Nat.xor_lt_two_pow (n := 8) hb8 (by decide)
        have y2 : c ^^^ 92 < 256 := Nat.xor_lt_two_pow (n := 8) hb8 (by decide)
        generalize c ^^^ 54 = d1 at *
        generalize c ^^^ 92 = d2 at *
        replace hI := Lib.hid hI
        replace hO := Lib.hid hO
        replace hA := Lib.hid hA
        replace hB := Lib.hid hB
        replace e54 := Lib.hid e54
        replace e92 := Lib.hid e92
        replace li := Lib.hid li
        replace lo := Lib.hid lo
        replace y1 := Lib.hid y1
        replace y2 := Lib.hid y2
        rcases hc with ⟨hc1, ob, oo, rfl, hc2⟩ | ⟨hc1, hc2⟩
        case' inr =>
          subst hc2
          rw [show ((0 : Nat) : Int) = 0 from rfl] at x1 x2
        all_goals
          go_wp2_with (first
            | (at_builtin; refine wpList_append_x rfl (.tmp 26) (.tmp 29) 25 rfl 5 Try.underlying25 (.int .u8 0) 1 infoU8 rfl (by decide) wo.heap.size wo u5 _ rfl (hI.out.alloc _) (hB.out.alloc hsb _) (by simp; omega) (some ⟨wr.heap.size, 0, none⟩) 1 1 [.int .u8 (d1 : Int)] rfl rfl (fun e => by simp at e) one_cell (by simp [Value.oneCell']) li.out ?_; intro v1 w1 O1 B1 G1 b1
               have O1' : Own w1 wo.heap.size 5 u6 (u8l ((padBy 92 KK).take k)) := (hO.out.alloc _).keep G1.out hA.out
               have A1 : ApartM v1 u6 := hA.out.grow (hO.out.alloc _) b1.out
               have s1 := B1.out.size
               replace O1' := Lib.hid O1'
               replace A1 := Lib.hid A1)
            | (at_builtin; refine wpList_append_x rfl (.tmp 31) (.tmp 34) 25 rfl 5 Try.underlying25 (.int .u8 0) 1 infoU8 rfl (by decide) wo.heap.size wo u6 _ rfl (O1'.out.alloc _) (B1.out.alloc s1 _) (by simp; omega) (some ⟨w1.heap.size, 0, none⟩) 1 1 [.int .u8 (d2 : Int)] rfl rfl (fun e => by simp at e) one_cell (by simp [Value.oneCell']) lo.out ?_; intro v2 w2 O2 B2 G2 b2))
          have O3 : Own w2 wo.heap.size 5 v1 (u8l ((padBy 54 KK).take k) ++ [.int .u8 (d1 : Int)]) := (O1.out.alloc _).keep G2.out A1.out.symm
          have A2 : ApartM v1 v2 := (A1.out.symm.grow (O1.out.alloc _) b2.out).symm
          replace O3 := Lib.hid O3
          replace A2 := Lib.hid A2
          go_roundw
          case rel => exact ⟨k + 1, by omega, by go_num, by rw [e54.out, u8l_append]; exact O3.out, by rw [e92.out, u8l_append]; exact O2.out, A2.out, B2.out⟩
          case measure => simp [intOf]; omega
      · obtain rfl : k = 64 := by omega
        simp only [show ((64 : Nat) : Int) = 64 from rfl]
        rw [List.take_of_length_le (by simp)] at hI hO
        have hT := Ty.out.below (hB.mono (Nat.le_refl _))
        have hsb := hB.size
        have psm : ∀ x ∈ padBy 54 KK ++ t, x < 256 := fun x hx => by
          rcases List.mem_append.1 hx with hx | hx
          · exact padBy_small (by decide) hks.out x hx
          · exact tsm.out x hx
        have ple : (padBy 54 KK ++ t).length ≤ 1000000 := by rw [List.length_append, length_padBy, ← hm.out]; omega
        replace hI := Lib.hid hI
        replace hO := Lib.hid hO
        replace hA := Lib.hid hA
        replace hB := Lib.hid hB
        replace hT := Lib.hid hT
        replace psm := Lib.hid psm
        replace ple := Lib.hid ple
        go_wp2_with (first
          | (at_builtin; refine wpList_append_t (by rfl) (.tmp 37) (.tmp 38) rfl wo.heap.size wo u5 (padBy 54 KK) rfl hI.out hB.out hsb (.slice at_ m ct) t rfl hT.out (by rw [length_padBy, ← hm.out]; omega) ?_; intro v1 w1 O1 B1 G1 b1))
        have O1' : Own w1 wo.heap.size 5 u6 (u8l (padBy 92 KK)) := hO.out.keep G1.out hA.out
        have s1 := B1.out.size
        have T1 := O1.out.text psm.out
        have rs := ref_sum w1 v1 _ T1 ple.out
        replace O1' := Lib.hid O1'
        replace T1 := Lib.hid T1
        replace rs := Lib.hid rs
        refine rs.out.mono ?_
        rintro e w2 ⟨v2, rfl, O2, B2⟩
        have O2' := O1'.out.below B2
        have B2' : Below wo.heap.size wo w2 := B1.out.trans (B2.mono s1)
        have s2 := B2'.size
        have ism := sumOf_lt (padBy 54 KK ++ t)
        have ile := length_sumOf (padBy 54 KK ++ t)
        have T2 := O2.text ism
        replace O2 := Lib.hid O2
        replace O2' := Lib.hid O2'
        replace B2' := Lib.hid B2'
        replace B2 := Lib.hid B2
        replace ism := Lib.hid ism
        replace ile := Lib.hid ile
        replace T2 := Lib.hid T2
        clear rs
        obtain ⟨I, hI2⟩ : ∃ I, I = sumOf (padBy 54 KK ++ t) := ⟨_, rfl⟩
        rw [← hI2] at T2 ism ile mac_eq
        have psm2 : ∀ x ∈ padBy 92 KK ++ I, x < 256 := fun x hx => by
          rcases List.mem_append.1 hx with hx | hx
          · exact padBy_small (by decide) hks.out x hx
          · exact ism.out x hx
        replace hI2 := Lib.hid hI2
        replace psm2 := Lib.hid psm2
        go_wp2_with (first
          | (at_builtin; refine wpList_append_s (by rfl) (.tmp 36) (.tmp 40) rfl wo.heap.size wo u6 (padBy 92 KK) rfl O2'.out B2'.out s2 v2 I rfl T2.out (by rw [length_padBy, ile.out]; omega) ?_; intro v3 w3 O3 B3))
        have s3 := B3.out.size
        have T3 := O3.out.text psm2.out
        have rs := ref_sum w3 v3 _ T3 (by rw [List.length_append, length_padBy, ile.out]; omega)
        rw [mac_eq.out] at rs
        replace T3 := Lib.hid T3
        replace rs := Lib.hid rs
        refine rs.out.mono ?_
        rintro e w4 ⟨v4, rfl, O4, B4⟩
        replace O4 := Lib.hid O4
        replace B4 := Lib.hid B4
        go_wp2_with fail
        go_ret
        exact ⟨v4, rfl, O4.out.weaken (by omega), (Bx.out.trans (B3.out.mono swo)).trans (B4.out.mono (by omega))⟩
  · have ek : KK = key := by rw [← hKK.out]; unfold hkey; rw [if_neg (by rw [← hn.out]; omega)]
    obtain ⟨wx, rfl⟩ : ∃ wx, wx = w := ⟨_, rfl⟩
    have Bx : Below wx.heap.size wx wx := Below.refl _ _
    have Tx : TextAt wx (.slice ak n ck) KK := by rw [ek]; exact hk.out
    have Ty := ht.out
    obtain ⟨ax, rfl⟩ : ∃ ax, ax = ak := ⟨_, rfl⟩
    obtain ⟨nk, rfl⟩ : ∃ nk, nk = n := ⟨_, rfl⟩
    have enk : KK.length = nk := by rw [ek, ← hn.out]
    replace ek := Lib.hid ek
    replace Bx := Lib.hid Bx
    replace Tx := Lib.hid Tx
    replace Ty := Lib.hid Ty
    replace enk := Lib.hid enk
    go_enter Try.func74, Try.ntmps74
    go_wp2_with fail
    obtain ⟨wo, rfl⟩ : ∃ wo : World, wo = wx := ⟨_, rfl⟩
    have swo := Bx.out.size
    have g3x := Tx.out.ex
    replace g3x := Lib.hid g3x
    go_loopw [5, 6, 7] (fun vi vo i wr => ∃ k : Nat, k ≤ 64 ∧ i = .int .i64 k ∧ Own wr wo.heap.size 5 vi (u8l ((padBy 54 KK).take k)) ∧ Own wr wo.heap.size 5 vo (u8l ((padBy 92 KK).take k)) ∧ ApartM vi vo ∧ Below wo.heap.size wo wr) (fun _ _ i _ => 64 - (intOf i).toNat)
    case atStart => exact ⟨0, Nat.zero_le _, rfl, Own.nil _ _ _, Own.nil _ _ _, fun g hg => by simp [Value.ownBlock] at hg, Below.refl _ _⟩
    case round =>
      obtain ⟨k, hk', rfl, hI, hO, hA, hB⟩ := hrel
      by_cases hlt : k < 64
      · have e54 := padBy_take 54 KK hlt
        have e92 := padBy_take 92 KK hlt
        have li : (u8l ((padBy 54 KK).take k)).length + 1 ≤ 1000000000 := by simp [u8l]; omega
        have lo : (u8l ((padBy 92 KK).take k)).length + 1 ≤ 1000000000 := by simp [u8l]; omega
        have hsb := hB.size
        have hc : ((k : Int) < (nk : Int) ∧ ∃ ob oo, ax = some ⟨ob, oo, none⟩ ∧ wr.cell? ⟨ob, oo + k, none⟩ = some (.int .u8 (byt KK k : Nat))) ∨ (¬ ((k : Int) < (nk : Int)) ∧ byt KK k = 0) := by
          by_cases hkn : k < nk
          · obtain ⟨ao', cap', e, _, _, h3⟩ := g3x.out
            cases e
            obtain ⟨_, ob, oo, e, hc⟩ := h3 k (by rw [enk.out]; exact hkn)
            exact .inl ⟨by omega, ob, oo, e, (hB.cell (block_lt_of_cell hc)).trans hc⟩
          · exact .inr ⟨by omega, byt_beyond (by rw [enk.out]; omega)⟩
        have hb8 : byt KK k < 256 := byt_lt hks.out k
        generalize byt KK k = c at *
        have x1 := u8_xor_nat c 54 hb8 (by decide)
        have x2 := u8_xor_nat c 92 hb8 (by decide)
        rw [show ((54 : Nat) : Int) = 54 from rfl] at x1
        rw [show ((92 : Nat) : Int) = 92 from rfl] at x2
        have y1 : c ^^^ 54 < 256 := Nat.xor_lt_two_pow (n := 8) hb8 (by decide)
        have y2 : c ^^^ 92 < 256 := Nat.xor_lt_two_pow (n := 8) hb8 (by decide)
        generalize c ^^^ 54 = d1 at *
        generalize c ^^^ 92 = d2 at *
        replace hI := Lib.hid hI
        replace hO := Lib.hid hO
        replace hA := Lib.hid hA
        replace hB := Lib.hid hB
        replace e54 := Lib.hid e54
        replace e92 := Lib.hid e92
        replace li := Lib.hid li
        replace lo := Lib.hid lo
        replace y1 := Lib.hid y1
        replace y2 := Lib.hid y2
        rcases hc with ⟨hc1, ob, oo, rfl, hc2⟩ | ⟨hc1, hc2⟩
        case' inr =>
          subst hc2
          rw [show ((0 : Nat) : Int) = 0 from rfl] at x1 x2
        all_goals
          go_wp2_with (first
            | (at_builtin; refine wpList_append_x rfl (.tmp 26) (.tmp 29) 25 rfl 5 Try.underlying25 (.int .u8 0) 1 infoU8 rfl (by decide) wo.heap.size wo u5 _ rfl (hI.out.alloc _) (hB.out.alloc hsb _) (by simp; omega) (some ⟨wr.heap.size, 0, none⟩) 1 1 [.int .u8 (d1 : Int)] rfl rfl (fun e => by simp at e) one_cell (by simp [Value.oneCell']) li.out ?_; intro v1 w1 O1 B1 G1 b1
               have O1' : Own w1 wo.heap.size 5 u6 (u8l ((padBy 92 KK).take k)) := (hO.out.alloc _).keep G1.out hA.out
               have A1 : ApartM v1 u6 := hA.out.grow (hO.out.alloc _) b1.out
               have s1 := B1.out.size
               replace O1' := Lib.hid O1'
               replace A1 := Lib.hid A1)
            | (at_builtin; refine wpList_append_x rfl (.tmp 31) (.tmp 34) 25 rfl 5 Try.underlying25 (.int .u8 0) 1 infoU8 rfl (by decide) wo.heap.size wo u6 _ rfl (O1'.out.alloc _) (B1.out.alloc s1 _) (by simp; omega) (some ⟨w1.heap.size, 0, none⟩) 1 1 [.int .u8 (d2 : Int)] rfl rfl (fun e => by simp at e) one_cell (by simp [Value.oneCell']) lo.out ?_; intro v2 w2 O2 B2 G2 b2))
          have O3 : Own w2 wo.heap.size 5 v1 (u8l ((padBy 54 KK).take k) ++ [.int .u8 (d1 : Int)]) := (O1.out.alloc _).keep G2.out A1.out.symm
          have A2 : ApartM v1 v2 := (A1.out.symm.grow (O1.out.alloc _) b2.out).symm
          replace O3 := Lib.hid O3
          replace A2 := Lib.hid A2
          go_roundw
          case rel => exact ⟨k + 1, by omega, by go_num, by rw [e54.out, u8l_append]; exact O3.out, by rw [e92.out, u8l_append]; exact O2.out, A2.out, B2.out⟩
          case measure => simp [intOf]; omega
      · obtain rfl : k = 64 := by omega
        simp only [show ((64 : Nat) : Int) = 64 from rfl]
        rw [List.take_of_length_le (by simp)] at hI hO
        have hT := Ty.out.below (hB.mono (Nat.le_refl _))
        have hsb := hB.size
        have psm : ∀ x ∈ padBy 54 KK ++ t, x < 256 := fun x hx => by
          rcases List.mem_append.1 hx with hx | hx
          · exact padBy_small (by decide) hks.out x hx
          · exact tsm.out x hx
        have ple : (padBy 54 KK ++ t).length ≤ 1000000 := by rw [List.length_append, length_padBy, ← hm.out]; omega
        replace hI := Lib.hid hI
        replace hO := Lib.hid hO
        replace hA := Lib.hid hA
        replace hB := Lib.hid hB
        replace hT := Lib.hid hT
        replace psm := Lib.hid psm
        replace ple := Lib.hid ple
        go_wp2_with (first
          | (at_builtin; refine wpList_append_t (by rfl) (.tmp 37) (.tmp 38) rfl wo.heap.size wo u5 (padBy 54 KK) rfl hI.out hB.out hsb (.slice at_ m ct) t rfl hT.out (by rw [length_padBy, ← hm.out]; omega) ?_; intro v1 w1 O1 B1 G1 b1))
        have O1' : Own w1 wo.heap.size 5 u6 (u8l (padBy 92 KK)) := hO.out.keep G1.out hA.out
        have s1 := B1.out.size
        have T1 := O1.out.text psm.out
        have rs := ref_sum w1 v1 _ T1 ple.out
        replace O1' := Lib.hid O1'
        replace T1 := Lib.hid T1
        replace rs := Lib.hid rs
        refine rs.out.mono ?_
        rintro e w2 ⟨v2, rfl, O2, B2⟩
        have O2' := O1'.out.below B2
        have B2' : Below wo.heap.size wo w2 := B1.out.trans (B2.mono s1)
        have s2 := B2'.size
        have ism := sumOf_lt (padBy 54 KK ++ t)
        have ile := length_sumOf (padBy 54 KK ++ t)
        have T2 := O2.text ism
        replace O2 := Lib.hid O2
        replace O2' := Lib.hid O2'
        replace B2' := Lib.hid B2'
        replace B2 := Lib.hid B2
        replace ism := Lib.hid ism
        replace ile := Lib.hid ile
        replace T2 := Lib.hid T2
        clear rs
        obtain ⟨I, hI2⟩ : ∃ I, I = sumOf (padBy 54 KK ++ t) := ⟨_, rfl⟩
        rw [← hI2] at T2 ism ile mac_eq
        have psm2 : ∀ x ∈ padBy 92 KK ++ I, x < 256 := fun x hx => by
          rcases List.mem_append.1 hx with hx | hx
          · exact padBy_small (by decide) hks.out x hx
          · exact ism.out x hx
        replace hI2 := Lib.hid hI2
        replace psm2 := Lib.hid psm2
        go_wp2_with (first
          | (at_builtin; refine wpList_append_s (by rfl) (.tmp 36) (.tmp 40) rfl wo.heap.size wo u6 (padBy 92 KK) rfl O2'.out B2'.out s2 v2 I rfl T2.out (by rw [length_padBy, ile.out]; omega) ?_; intro v3 w3 O3 B3))
        have s3 := B3.out.size
        have T3 := O3.out.text psm2.out
        have rs := ref_sum w3 v3 _ T3 (by rw [List.length_append, length_padBy, ile.out]; omega)
        rw [mac_eq.out] at rs
        replace T3 := Lib.hid T3
        replace rs := Lib.hid rs
        refine rs.out.mono ?_
        rintro e w4 ⟨v4, rfl, O4, B4⟩
        replace O4 := Lib.hid O4
        replace B4 := Lib.hid B4
        go_wp2_with fail
        go_ret
        exact ⟨v4, rfl, O4.out.weaken (by omega), (Bx.out.trans (B3.out.mono swo)).trans (B4.out.mono (by omega))⟩

end Go.Proofs.Ytecmagenlbnchaa
namespace Go.Proofs.Ytecmagenlbnchaa
set_option maxRecDepth 100000
open Go.RowKit

theorem lit1s {w : World} {x : Nat} (hx : x < 256) : TextAt (w.alloc (.cells #[.int .u8 (x : Int)] 5)) (.slice (some ⟨w.heap.size, 0, none⟩) 1 1) [x] :=
  RowB.text (show RowB (w.alloc (.cells (u8s [x]) 5)) w.heap.size 5 [x] from heap_alloc_new _ _) (by intro y hy; simp at hy; omega) rfl

set_option maxRecDepth 100000 in
set_option maxHeartbeats 2000000 in
theorem ref_stream (w : World) (vk vn : Value) (key name : List Nat) (p : Nat) (hk : TextAt w vk key) (hn : TextAt w vn name) (h1 : key.length < 900000) (h2 : name.length < 800000) (hp : p ≤ 255) :
    Calls Try.prog 50 #[vk, vn, .int .i64 (p : Int)] w fun e w' => ∃ v', e = .returned v' ∧ Own w' w.heap.size 5 v' (u8l (outTo key name p)) ∧ Below w.heap.size w w' := by
  replace hk := Lib.hid hk
  replace hn := Lib.hid hn
  go_enter Try.func50, Try.ntmps50
  go_wp2_with fail
  go_loopw [7, 8, 9] (fun out last i wr => ∃ k : Nat, k ≤ p ∧ i = .int .i64 ((k : Int) + 1) ∧ Own wr w.heap.size 5 out (u8l (outTo key name k)) ∧ TextAt wr last (lastTo key name k) ∧ Below w.heap.size w wr) (fun _ _ i _ => 257 - (intOf i).toNat)
  case atStart => exact ⟨0, Nat.zero_le _, rfl, Own.nil _ _ _, TextAt.nil _, Below.refl _ _⟩
  case round =>
    obtain ⟨k, hk', rfl, hO, hL, hB⟩ := hrel
    by_cases hlt : k < p
    · have e1 : (k : Int) + 1 ≤ (p : Int) := by omega
      have elast := lastTo_succ key name k
      rw [show (k + 1) % 256 = k + 1 by omega] at elast
      have eout := outTo_succ key name k
      have l1 := lastTo_le key name k
      have l3 := outTo_length key name k
      have sp := lastTo_small key name k
      have cp := ref_copy wr u8 _ hL (by omega)
      have hsr := hB.size
      have nN := hn.out.small
      generalize eqL : lastTo key name (k + 1) = L at *
      generalize lastTo key name k = P at *
      generalize eqO : outTo key name (k + 1) = O' at *
      generalize outTo key name k = O at *
      replace hO := Lib.hid hO
      replace hL := Lib.hid hL
      replace hB := Lib.hid hB
      replace elast := Lib.hid elast
      replace eout := Lib.hid eout
      replace sp := Lib.hid sp
      replace cp := Lib.hid cp
      replace eqL := Lib.hid eqL
      replace eqO := Lib.hid eqO
      replace nN := Lib.hid nN
      go_wp2_with fail
      refine cp.out.mono ?_
      rintro e w1 ⟨v1, rfl, O1, B1⟩
      have n1 := (hn.out.below hB.out).below B1
      have s1 := B1.size
      replace O1 := Lib.hid O1
      replace B1 := Lib.hid B1
      replace n1 := Lib.hid n1
      go_wp2_with (first
        | (at_builtin; refine wpList_append_s (by rfl) (.tmp 17) (.tmp 18) rfl wr.heap.size wr v1 P rfl O1.out B1.out s1 vn name rfl n1.out (by omega) ?_; intro v2 w2 O2 B2
           have s2 := B2.out.size)
        | (at_builtin; refine wpList_append_s (by rfl) (.tmp 21) (.tmp 24) rfl wr.heap.size wr v2 (P ++ name) rfl (O2.out.alloc _) (B2.out.alloc s2 _) (by simp; omega) (.slice (some ⟨w2.heap.size, 0, none⟩) 1 1) [k + 1] rfl (by exact lit1s (x := k + 1) (by omega)) (by simp; omega) ?_; intro v3 w3 O3 B3))
      have sx : ∀ x ∈ P ++ name ++ [k + 1], x < 256 := fun x hx => by
        rcases List.mem_append.1 hx with hx | hx
        · rcases List.mem_append.1 hx with hx | hx
          · exact sp.out x hx
          · exact nN.out x hx
        · simp at hx; omega
      have T3 := O3.out.text sx
      have s3 := B3.out.size
      have k3 := (hk.out.below hB.out).below (B3.out)
      have mc := ref_mac w3 vk v3 key _ k3 T3 h1 (by simp; omega)
      rw [← elast.out] at mc
      replace sx := Lib.hid sx
      replace T3 := Lib.hid T3
      replace k3 := Lib.hid k3
      replace mc := Lib.hid mc
      refine mc.out.mono ?_
      rintro e w4 ⟨v4, rfl, O4, B4⟩
      have Ox : Own w4 w.heap.size 5 u7 (u8l O) := (hO.out.below B3.out).below B4
      have B4' : Below w.heap.size w w4 := (hB.out.trans (B3.out.mono hsr)).trans (B4.mono (by omega))
      have ap : ApartM u7 v4 := fun g g1 g2 => by
        have := (hO.out.lt g g1).2
        have := (O4.lt g g2).1
        omega
      have T4 := O4.text (by rw [← eqL.out]; exact lastTo_small key name (k + 1))
      have l4 : L.length = 32 := by rw [← eqL.out]; exact lastTo_length key name k
      have s4 := B4'.size
      replace O4 := Lib.hid O4
      replace B4 := Lib.hid B4
      replace Ox := Lib.hid Ox
      replace B4' := Lib.hid B4'
      replace ap := Lib.hid ap
      replace T4 := Lib.hid T4
      clear mc
      go_wp2_with (first
        | (at_builtin; refine wpList_append_t (by rfl) (.tmp 27) (.tmp 28) rfl w.heap.size w u7 O rfl Ox.out B4'.out s4 v4 L rfl T4.out (by omega) ?_; intro v5 w5 O5 B5 g5 b5))
      have T5 := (O4.out.keep g5.out ap.out).text (by rw [← eqL.out]; exact lastTo_small key name (k + 1))
      replace T5 := Lib.hid T5
      go_roundw
      case rel => exact ⟨k + 1, by omega, by go_num, by rw [eqO.out, eout.out]; exact O5.out, by rw [eqL.out]; exact T5.out, B5.out⟩
      case measure => simp [intOf]; omega
    · obtain rfl : k = p := by omega
      have e1 : ¬ ((k : Int) + 1 ≤ (k : Int)) := by omega
      replace hO := Lib.hid hO
      replace hL := Lib.hid hL
      replace hB := Lib.hid hB
      go_wp2_with fail
      go_ret
      exact ⟨_, rfl, hO.out, hB.out⟩


set_option maxRecDepth 100000 in
theorem ref_derive (w : World) (vk : Value) (key : List Nat) (s : ByteArray) (v : Nat) (hk : TextAt w vk key) (h1 : key.length < 900000) (h2 : s.size < 700000) (hv : v < 18446744073709551616) :
    Calls Try.prog 32 #[vk, .string s, .int .u64 (v : Int)] w fun e w' => ∃ v', e = .returned v' ∧ TextAt w' v' (macs key (textOf s ++ beBytes 8 v ++ [1])) ∧ Below w.heap.size w w' := by
  have hsz : (textOf s).length < 700000 := by rw [textOf_length]; exact h2
  replace hk := Lib.hid hk
  go_enter Try.func32, Try.ntmps32
  go_wp2_with (first
    | (refine wpList_conv_bytes (by rfl) (.tmp 8) rfl s rfl ?_; intro c1 w1 O1 B1
       have s1 := B1.out.size))
  have rb := ref_bytes w1 v 8 (by decide) (by omega)
  rw [show ((8 : Nat) : Int) = 8 from rfl] at rb
  replace rb := Lib.hid rb
  refine rb.out.mono ?_
  rintro e w2 ⟨v2, rfl, O2, B2⟩
  have T2 := O2.text (beBytes_lt 8 v)
  have F2 := O1.out.below B2
  have B2' : Below w.heap.size w w2 := B1.out.trans (B2.mono s1)
  replace T2 := Lib.hid T2
  replace F2 := Lib.hid F2
  replace B2' := Lib.hid B2'
  replace O2 := Lib.hid O2
  replace B2 := Lib.hid B2
  go_wp2_with (first
    | (at_builtin; refine wpList_append_f (by rfl) (.tmp 9) (.tmp 11) rfl w.heap.size w _ (textOf s) rfl F2.out B2'.out v2 (beBytes 8 v) rfl T2.out (by rw [length_beBytes]; omega) ?_; intro v3 w3 T3 B3))
  have s3 := B3.out.size
  have rs := ref_stream w3 vk v3 key _ 1 (hk.out.below B3.out) T3.out h1 (by rw [List.length_append, length_beBytes]; omega) (by decide)
  rw [outTo_one, show ((1 : Nat) : Int) = 1 from rfl] at rs
  replace rs := Lib.hid rs
  refine rs.out.mono ?_
  rintro e w4 ⟨v4, rfl, O4, B4⟩
  have T4 := O4.text (macs_small _ _)
  replace O4 := Lib.hid O4
  replace T4 := Lib.hid T4
  replace B4 := Lib.hid B4
  go_wp2_with fail
  go_ret
  exact ⟨_, rfl, T4.out, B3.out.trans (B4.out.mono s3)⟩

end Go.Proofs.Ytecmagenlbnchaa
