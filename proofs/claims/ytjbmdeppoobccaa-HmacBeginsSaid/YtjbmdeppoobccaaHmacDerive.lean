/-
  hmac's Derive; Expand of too many bytes. Conditions: the name is not too long.
-/
import Derived.Test.YtjbmdeppoobccaaHmacExpand
import Derived.Test.YtjbmdeppoobccaaStrBytes
import Derived.Laws.Cover3
namespace Go.Proofs.Ytjbmdeppoobccaa
open Go.RowKit

theorem TextAt.range {w : World} {ob oo n cap : Nat} {t : List Nat} (h : TextAt w (.slice (some ⟨ob, oo, none⟩) n cap) t) : w.rangeAt ob oo (u8l t) := fun j v hj => by
  have hjt : j < t.length := by
    have := (List.getElem?_eq_some_iff.1 hj).1
    simpa [u8l] using this
  obtain ⟨ao, cap', e, _, _, h3⟩ := h.ex
  cases e
  obtain ⟨_, ob', oo', e, hc⟩ := h3 j hjt
  cases e
  rw [hc, ← hj]
  simp [u8l, byt, List.getD, hjt]
theorem TextAt.form {w : World} {v : Value} {t : List Nat} (h : TextAt w v t) : ∃ a c, v = .slice a t.length c := by
  obtain ⟨ao, cap', e, _, _, _⟩ := h.ex
  exact ⟨_, _, e⟩
theorem TextAt.addr {w : World} {a : Option Addr} {n c : Nat} {t : List Nat} (h : TextAt w (.slice a n c) t) (h0 : 0 < t.length) : ∃ ob oo, a = some ⟨ob, oo, none⟩ := by
  obtain ⟨ao, cap', e, _, _, h3⟩ := h.ex
  cases e
  obtain ⟨_, ob, oo, e, _⟩ := h3 0 h0
  exact ⟨ob, oo, e⟩

theorem name_code {P : Program} {c : Code} {Q : Exit → Act → World → Prop} {a : Act} {w : World} (h : ∀ w1, Hid (w1 = w) → c.wp P Q a w1) : c.wp P Q a w := h w rfl
set_option maxRecDepth 100000 in
theorem expand_neg (w : World) (key : List Nat) (name : Value) (n : Int) (h : n < 0) :
    Calls Try.prog 27 #[.agg (u8s key), name, .int .i64 n] w fun e w' => e = .returned (.tuple #[.slice none 0 0, .int .i64 1]) ∧ Below w.heap.size w w' := by
  go_enter Try.func27, Try.ntmps27
  go_wp2_with fail
  go_step3
  go_wp2_with fail
  (first | go_ret2 | (rw [Exit.noGoto_ret]; go_ret2))
  exact ⟨rfl, (Below.refl _ _).alloc (Nat.le_refl _) _⟩
set_option maxRecDepth 100000 in
theorem expand_long (w : World) (key : List Nat) (name : Value) (n : Int) (h : 8160 < n) :
    Calls Try.prog 27 #[.agg (u8s key), name, .int .i64 n] w fun e w' => e = .returned (.tuple #[.slice none 0 0, .int .i64 2]) ∧ Below w.heap.size w w' := by
  have h0 : ¬ n < 0 := by omega
  go_enter Try.func27, Try.ntmps27
  go_wp2_with fail
  go_step3
  go_wp2_with fail
  (first | go_ret2 | (rw [Exit.noGoto_ret]; go_ret2))
  exact ⟨rfl, (Below.refl _ _).alloc (Nat.le_refl _) _⟩

set_option maxRecDepth 100000 in
set_option maxHeartbeats 4000000 in
theorem derive_any (w : World) (key : List Nat) (s : ByteArray) (v : Nat) (kl : key.length = 32) (ks : ∀ x ∈ key, x < 256) (hs : s.size < 900000) :
    Calls Try.prog 32 #[.agg (u8s key), .string s, .int .u64 (v : Int)] w fun e w' => e = .returned (.agg (u8s (macs key (textOf s ++ beBytes 8 v ++ [1])))) ∧ Below w.heap.size w w' := by
  have iK := info_key key kl
  have iM := info_key (macs key (textOf s ++ beBytes 8 v ++ [1])) (macs_length _ _)
  have hu49 : Try.prog.underlying 49 = some (.array 32 5) := Try.underlying49
  replace kl := Lib.hid kl
  replace ks := Lib.hid ks
  replace iK := Lib.hid iK
  replace iM := Lib.hid iM
  replace hu49 := Lib.hid hu49
  go_enter Try.func32, Try.ntmps32
  go_wp2_with fail
  refine name_code ?_; intro W0 hW
  have kx : RowB W0 w.heap.size 49 key := by rw [hW.out]; exact alloc_row (heap_alloc_new _ _)
  have r0 : RowB W0 (w.heap.size + 1) 49 (List.replicate 32 0) := by rw [hW.out]; exact alloc_at (by simp)
  have h0 : Below w.heap.size w W0 := by rw [hW.out]; exact ((Below.refl _ _).alloc (Nat.le_refl _) _).alloc (by simp) _
  have ltk := kx.lt
  have ltr := r0.lt
  have kx0 : RowB W0.drew w.heap.size 49 key := kx
  have b0 : Below W0.heap.size W0 W0.drew := (Below.refl _ _).drew
  replace kx := Lib.hid kx
  replace r0 := Lib.hid r0
  replace h0 := Lib.hid h0
  replace kx0 := Lib.hid kx0
  replace b0 := Lib.hid b0
  clear hW
  refine wp_region_held_drew (S := (fun w' => RowB w' w.heap.size 49 key)) (by kernel_rfl) (kx0.out) (fun hHeld => ?_)
  refine held_take (i := 0) (v := _) rfl (by kernel_rfl) (by kernel_rfl) (by kernel_rfl) (fun _ _ _ h => h) (yieldsIf_row (by rfl) rfl rfl Try.underlying49 iK.out (fun w' h => h)) (by assumption) ?_
  try simp only [Act.put, List.setIfInBounds_toArray, List.set_cons_zero, List.set_cons_succ]
  refine held_take (i := 1) (v := ?_) rfl (by kernel_rfl) (by kernel_rfl) (by kernel_rfl) (fun _ _ _ h => h) (Or.inl ⟨by rfl, ?_⟩) (by assumption) ?_
  rotate_left
  · intro w hSw; (try dsimp only at hSw); go_simp; try with_reducible rfl
  try simp only [Act.put, List.setIfInBounds_toArray, List.set_cons_zero, List.set_cons_succ]
  refine held_take (i := 3) (v := ?_) rfl (by kernel_rfl) (by kernel_rfl) (by kernel_rfl) (fun _ _ _ h => h) (Or.inl ⟨by rfl, ?_⟩) (by assumption) ?_
  rotate_left
  · intro w hSw; (try dsimp only at hSw); go_simp; try with_reducible rfl
  try simp only [Act.put, List.setIfInBounds_toArray, List.set_cons_zero, List.set_cons_succ]
  refine held_ready2 (i := 2) (j := 4) rfl rfl (by kernel_rfl) (fun K hK => ?_) (fun K hK => ?_)
  · rw [if_pos (by rfl)]
    refine wp_conv_bytes (.tmp 11) rfl s rfl ?_; intro c1 w1 O1 B1
    have kx1 : RowB w1 w.heap.size 49 key := kx0.out.other (B1.out.block _ ltk)
    have b1 : Below W0.heap.size W0 w1 := b0.out.trans B1.out
    have sb1 := b1.size
    have pt := put64 w1 v
    replace kx1 := Lib.hid kx1
    replace b1 := Lib.hid b1
    replace pt := Lib.hid pt
    refine hK.out _ _ (kx1.out) (fun hHeldN => ?_)
    clear hHeld hK K
    have hHeld := hHeldN
    clear hHeldN
    try simp only [Act.put, List.setIfInBounds_toArray, List.set_cons_zero, List.set_cons_succ]
    refine held_ready (i := 4) rfl (by kernel_rfl) (fun K hK => ?_)
    go_simp
    refine pt.out.mono ?_
    rintro e w2 ⟨rfl, P2, B2⟩
    have kx2 : RowB w2 w.heap.size 49 key := kx1.out.other (B2.block _ kx1.out.lt)
    have b2 : Below W0.heap.size W0 w2 := b1.out.trans (B2.mono sb1)
    have O2 := O1.out.below B2
    have T2 := P2.text (beBytes_lt 8 v) (length_beBytes 8 v)
    replace kx2 := Lib.hid kx2
    replace b2 := Lib.hid b2
    replace O2 := Lib.hid O2
    replace T2 := Lib.hid T2
    replace P2 := Lib.hid P2
    replace B2 := Lib.hid B2
    refine hK.out _ _ (kx2.out) (fun hHeldN => ?_)
    clear hHeld hK K
    have hHeld := hHeldN
    clear hHeldN
    try simp only [Act.put, List.setIfInBounds_toArray, List.set_cons_zero, List.set_cons_succ]
    refine held_ready (i := 5) rfl (by kernel_rfl) (fun K hK => ?_)
    rw [if_pos (by rfl)]
    refine wp_append_f (.tmp 12) (.tmp 14) rfl W0.heap.size W0 _ (textOf s) rfl O2.out b2.out _ (beBytes 8 v) rfl T2.out (by rw [textOf_length, length_beBytes]; omega) ?_
    intro v3 w3 tv hv
    have sv := hv.out.size
    obtain ⟨an, cn, en⟩ := tv.out.form
    have tvl : (textOf s ++ beBytes 8 v).length < 1000000 := by rw [List.length_append, textOf_length, length_beBytes]; omega
    have tvs := tv.out.small
    obtain ⟨nm, hnm⟩ : ∃ nm, nm = textOf s ++ beBytes 8 v := ⟨_, rfl⟩
    rw [← hnm] at en tvl tvs
    have tv' : TextAt w3 v3 nm := by rw [hnm]; exact tv.out
    obtain ⟨nl, hnl⟩ : ∃ nl, nl = nm.length := ⟨_, rfl⟩
    rw [← hnl] at en tvl
    subst en
    have ex := expand_any w3 key an nl cn nm 32 kl.out ks.out tv' hnl.symm tvl (by decide)
    rw [show ((32 : Nat) : Int) = 32 from rfl, expandOf_first] at ex
    have kx3 : RowB w3 w.heap.size 49 key := kx.out.other (hv.out.block _ ltk)
    replace tv := Lib.hid tv
    replace tv' := Lib.hid tv'
    replace hnm := Lib.hid hnm
    replace hnl := Lib.hid hnl
    replace tvs := Lib.hid tvs
    replace kx3 := Lib.hid kx3
    replace ex := Lib.hid ex
    refine hK.out _ _ (kx3.out) (fun hHeldN => ?_)
    clear hHeld hK K
    have hHeld := hHeldN
    clear hHeldN
    try simp only [Act.put, List.setIfInBounds_toArray, List.set_cons_zero, List.set_cons_succ]
    refine held_ready (i := 6) rfl (by kernel_rfl) (fun K hK => ?_)
    go_simp
    refine ex.out.mono ?_
    rintro e w4 ⟨a4, rfl, T4, B4⟩
    have kx4 : RowB w4 w.heap.size 49 key := kx3.out.other (B4.block _ kx3.out.lt)
    have R4 : RowB w4 (w.heap.size + 1) 49 (List.replicate 32 0) := RowB.other (r0.out.other (hv.out.block _ ltr)) (B4.block _ (by omega))
    have h4 : Below w.heap.size w w4 := (h0.out.trans (hv.out.mono h0.out.size)).trans (B4.mono (by have := h0.out.size; omega))
    obtain ⟨ob, oo, rfl⟩ := T4.addr (by rw [macs_length]; decide)
    have Rg := T4.range
    have eM : u8s (macs key (nm ++ [1])) = (u8l (macs key (nm ++ [1]))).toArray := rfl
    have iM4 : (Try.prog.info? 49).map (·.size) = some (u8s (macs key (nm ++ [1]))).size := by rw [hnm.out]; exact iM.out
    have ml : (u8s (macs key (nm ++ [1]))).size = 32 := len_macs _ _
    have ml' : (u8l (macs key (nm ++ [1]))).length = 32 := by rw [← ml]; simp [u8l, u8s]
    replace kx4 := Lib.hid kx4
    replace R4 := Lib.hid R4
    replace h4 := Lib.hid h4
    replace T4 := Lib.hid T4
    replace Rg := Lib.hid Rg
    replace eM := Lib.hid eM
    replace iM4 := Lib.hid iM4
    replace ml := Lib.hid ml
    replace ml' := Lib.hid ml'
    replace B4 := Lib.hid B4
    refine hK.out _ _ (kx4.out) (fun hHeldN => ?_)
    clear hHeld hK K
    have hHeld := hHeldN
    clear hHeldN
    try simp only [Act.put, List.setIfInBounds_toArray, List.set_cons_zero, List.set_cons_succ]
    refine held_take (i := 7) (v := ?_) rfl (by kernel_rfl) (by kernel_rfl) (by kernel_rfl) (fun _ _ _ h => h) (Or.inl ⟨by rfl, ?_⟩) (by assumption) ?_
    rotate_left
    · intro w hSw; (try dsimp only at hSw); go_simp; try with_reducible rfl
    try simp only [Act.put, List.setIfInBounds_toArray, List.set_cons_zero, List.set_cons_succ]
    refine held_take (i := 8) (v := ?_) rfl (by kernel_rfl) (by kernel_rfl) (by kernel_rfl) (fun _ _ _ h => h) (Or.inl ⟨by rfl, ?_⟩) (by assumption) ?_
    rotate_left
    · intro w hSw; (try dsimp only at hSw); go_simp; try with_reducible rfl
    try simp only [Act.put, List.setIfInBounds_toArray, List.set_cons_zero, List.set_cons_succ]
    refine held_take (i := 9) (v := ?_) rfl (by kernel_rfl) (by kernel_rfl) (by kernel_rfl) (fun _ _ _ h => h) (Or.inl ⟨by rfl, ?_⟩) (by assumption) ?_
    rotate_left
    · intro w hSw; (try dsimp only at hSw); go_simp; try with_reducible rfl
    try simp only [Act.put, List.setIfInBounds_toArray, List.set_cons_zero, List.set_cons_succ]
    refine held_take (i := 10) (v := ?_) rfl (by kernel_rfl) (by kernel_rfl) (by kernel_rfl) (fun _ _ _ h => h) (Or.inl ⟨by rfl, ?_⟩) (by assumption) ?_
    rotate_left
    · intro w hSw; (try dsimp only at hSw); go_simp; try with_reducible rfl
    try simp only [Act.put, List.setIfInBounds_toArray, List.set_cons_zero, List.set_cons_succ]
    refine held_take (i := 11) (v := ?_) rfl (by kernel_rfl) (by kernel_rfl) (by kernel_rfl) (fun _ _ _ h => h) (Or.inl ⟨by rfl, ?_⟩) (by assumption) ?_
    rotate_left
    · intro w hSw; (try dsimp only at hSw); go_simp; try with_reducible rfl
    try simp only [Act.put, List.setIfInBounds_toArray, List.set_cons_zero, List.set_cons_succ]
    refine wpAnyH_done (by kernel_rfl) ?_ _
    clear hHeld
    have hat : ∀ x : World, (Instr.arrayAt 49 (.slice (some ⟨ob, oo, none⟩) 32 32)).run Try.prog x = .ok (.pointer (some ⟨ob, oo, none⟩)) x := fun x => run_arrayAt x 49 5 32 (some ⟨ob, oo, none⟩) 32 32 Try.underlying49 (Nat.le_refl _)
    go_wp2_with (first
      | (refine wpList_load_mid rfl 49 (.tmp 20) rfl ob oo rfl (u8l (macs key (nm ++ [1]))) _ Rg.out hu49.out rfl (by rw [iM4.out, ml.out, ml'.out]) ?_)
      | (refine wpList_store_s (by rfl) 49 (.tmp 6) (.tmp 21) rfl (w.heap.size + 1) (macs key (nm ++ [1])) rfl rfl 49 _ R4.out iM4.out (by rw [ml.out]; rfl) ?_; intro w5 R5 U5))
    refine ret_row rfl rfl (w.heap.size + 1) 49 _ (0, 0) _ rfl R5.out Try.underlying49 rfl iM4.out ⟨by rw [hnm.out], ?_⟩
    exact h4.out.trans (U5.out.below (fun k hk e => by omega) h4.out.size)
  · go_simp
    have pt := put64 W0.drew v
    replace pt := Lib.hid pt
    refine pt.out.mono ?_
    rintro e w1 ⟨rfl, P1, B1⟩
    have kx1 : RowB w1 w.heap.size 49 key := kx0.out.other (B1.block _ ltk)
    have b1 : Below W0.heap.size W0 w1 := b0.out.trans B1
    have sb1 := b1.size
    replace kx1 := Lib.hid kx1
    replace b1 := Lib.hid b1
    replace P1 := Lib.hid P1
    replace B1 := Lib.hid B1
    refine hK.out _ _ (kx1.out) (fun hHeldN => ?_)
    clear hHeld hK K
    have hHeld := hHeldN
    clear hHeldN
    try simp only [Act.put, List.setIfInBounds_toArray, List.set_cons_zero, List.set_cons_succ]
    refine held_ready (i := 2) rfl (by kernel_rfl) (fun K hK => ?_)
    rw [if_pos (by rfl)]
    refine wp_conv_bytes (.tmp 11) rfl s rfl ?_; intro c1 w2 O1 B2
    have kx2 : RowB w2 w.heap.size 49 key := kx1.out.other (B2.out.block _ kx1.out.lt)
    have b2 : Below W0.heap.size W0 w2 := b1.out.trans (B2.out.mono sb1)
    have O2 := O1.out.weaken sb1
    have T2 := (P1.out.text (beBytes_lt 8 v) (length_beBytes 8 v)).below B2.out
    replace kx2 := Lib.hid kx2
    replace b2 := Lib.hid b2
    replace O2 := Lib.hid O2
    replace T2 := Lib.hid T2
    refine hK.out _ _ (kx2.out) (fun hHeldN => ?_)
    clear hHeld hK K
    have hHeld := hHeldN
    clear hHeldN
    try simp only [Act.put, List.setIfInBounds_toArray, List.set_cons_zero, List.set_cons_succ]
    refine held_ready (i := 5) rfl (by kernel_rfl) (fun K hK => ?_)
    rw [if_pos (by rfl)]
    refine wp_append_f (.tmp 12) (.tmp 14) rfl W0.heap.size W0 _ (textOf s) rfl O2.out b2.out _ (beBytes 8 v) rfl T2.out (by rw [textOf_length, length_beBytes]; omega) ?_
    intro v3 w3 tv hv
    have sv := hv.out.size
    obtain ⟨an, cn, en⟩ := tv.out.form
    have tvl : (textOf s ++ beBytes 8 v).length < 1000000 := by rw [List.length_append, textOf_length, length_beBytes]; omega
    have tvs := tv.out.small
    obtain ⟨nm, hnm⟩ : ∃ nm, nm = textOf s ++ beBytes 8 v := ⟨_, rfl⟩
    rw [← hnm] at en tvl tvs
    have tv' : TextAt w3 v3 nm := by rw [hnm]; exact tv.out
    obtain ⟨nl, hnl⟩ : ∃ nl, nl = nm.length := ⟨_, rfl⟩
    rw [← hnl] at en tvl
    subst en
    have ex := expand_any w3 key an nl cn nm 32 kl.out ks.out tv' hnl.symm tvl (by decide)
    rw [show ((32 : Nat) : Int) = 32 from rfl, expandOf_first] at ex
    have kx3 : RowB w3 w.heap.size 49 key := kx.out.other (hv.out.block _ ltk)
    replace tv := Lib.hid tv
    replace tv' := Lib.hid tv'
    replace hnm := Lib.hid hnm
    replace hnl := Lib.hid hnl
    replace tvs := Lib.hid tvs
    replace kx3 := Lib.hid kx3
    replace ex := Lib.hid ex
    refine hK.out _ _ (kx3.out) (fun hHeldN => ?_)
    clear hHeld hK K
    have hHeld := hHeldN
    clear hHeldN
    try simp only [Act.put, List.setIfInBounds_toArray, List.set_cons_zero, List.set_cons_succ]
    refine held_ready (i := 6) rfl (by kernel_rfl) (fun K hK => ?_)
    go_simp
    refine ex.out.mono ?_
    rintro e w4 ⟨a4, rfl, T4, B4⟩
    have kx4 : RowB w4 w.heap.size 49 key := kx3.out.other (B4.block _ kx3.out.lt)
    have R4 : RowB w4 (w.heap.size + 1) 49 (List.replicate 32 0) := RowB.other (r0.out.other (hv.out.block _ ltr)) (B4.block _ (by omega))
    have h4 : Below w.heap.size w w4 := (h0.out.trans (hv.out.mono h0.out.size)).trans (B4.mono (by have := h0.out.size; omega))
    obtain ⟨ob, oo, rfl⟩ := T4.addr (by rw [macs_length]; decide)
    have Rg := T4.range
    have eM : u8s (macs key (nm ++ [1])) = (u8l (macs key (nm ++ [1]))).toArray := rfl
    have iM4 : (Try.prog.info? 49).map (·.size) = some (u8s (macs key (nm ++ [1]))).size := by rw [hnm.out]; exact iM.out
    have ml : (u8s (macs key (nm ++ [1]))).size = 32 := len_macs _ _
    have ml' : (u8l (macs key (nm ++ [1]))).length = 32 := by rw [← ml]; simp [u8l, u8s]
    replace kx4 := Lib.hid kx4
    replace R4 := Lib.hid R4
    replace h4 := Lib.hid h4
    replace T4 := Lib.hid T4
    replace Rg := Lib.hid Rg
    replace eM := Lib.hid eM
    replace iM4 := Lib.hid iM4
    replace ml := Lib.hid ml
    replace ml' := Lib.hid ml'
    replace B4 := Lib.hid B4
    refine hK.out _ _ (kx4.out) (fun hHeldN => ?_)
    clear hHeld hK K
    have hHeld := hHeldN
    clear hHeldN
    try simp only [Act.put, List.setIfInBounds_toArray, List.set_cons_zero, List.set_cons_succ]
    refine held_take (i := 7) (v := ?_) rfl (by kernel_rfl) (by kernel_rfl) (by kernel_rfl) (fun _ _ _ h => h) (Or.inl ⟨by rfl, ?_⟩) (by assumption) ?_
    rotate_left
    · intro w hSw; (try dsimp only at hSw); go_simp; try with_reducible rfl
    try simp only [Act.put, List.setIfInBounds_toArray, List.set_cons_zero, List.set_cons_succ]
    refine held_take (i := 8) (v := ?_) rfl (by kernel_rfl) (by kernel_rfl) (by kernel_rfl) (fun _ _ _ h => h) (Or.inl ⟨by rfl, ?_⟩) (by assumption) ?_
    rotate_left
    · intro w hSw; (try dsimp only at hSw); go_simp; try with_reducible rfl
    try simp only [Act.put, List.setIfInBounds_toArray, List.set_cons_zero, List.set_cons_succ]
    refine held_take (i := 9) (v := ?_) rfl (by kernel_rfl) (by kernel_rfl) (by kernel_rfl) (fun _ _ _ h => h) (Or.inl ⟨by rfl, ?_⟩) (by assumption) ?_
    rotate_left
    · intro w hSw; (try dsimp only at hSw); go_simp; try with_reducible rfl
    try simp only [Act.put, List.setIfInBounds_toArray, List.set_cons_zero, List.set_cons_succ]
    refine held_take (i := 10) (v := ?_) rfl (by kernel_rfl) (by kernel_rfl) (by kernel_rfl) (fun _ _ _ h => h) (Or.inl ⟨by rfl, ?_⟩) (by assumption) ?_
    rotate_left
    · intro w hSw; (try dsimp only at hSw); go_simp; try with_reducible rfl
    try simp only [Act.put, List.setIfInBounds_toArray, List.set_cons_zero, List.set_cons_succ]
    refine held_take (i := 11) (v := ?_) rfl (by kernel_rfl) (by kernel_rfl) (by kernel_rfl) (fun _ _ _ h => h) (Or.inl ⟨by rfl, ?_⟩) (by assumption) ?_
    rotate_left
    · intro w hSw; (try dsimp only at hSw); go_simp; try with_reducible rfl
    try simp only [Act.put, List.setIfInBounds_toArray, List.set_cons_zero, List.set_cons_succ]
    refine wpAnyH_done (by kernel_rfl) ?_ _
    clear hHeld
    have hat : ∀ x : World, (Instr.arrayAt 49 (.slice (some ⟨ob, oo, none⟩) 32 32)).run Try.prog x = .ok (.pointer (some ⟨ob, oo, none⟩)) x := fun x => run_arrayAt x 49 5 32 (some ⟨ob, oo, none⟩) 32 32 Try.underlying49 (Nat.le_refl _)
    go_wp2_with (first
      | (refine wpList_load_mid rfl 49 (.tmp 20) rfl ob oo rfl (u8l (macs key (nm ++ [1]))) _ Rg.out hu49.out rfl (by rw [iM4.out, ml.out, ml'.out]) ?_)
      | (refine wpList_store_s (by rfl) 49 (.tmp 6) (.tmp 21) rfl (w.heap.size + 1) (macs key (nm ++ [1])) rfl rfl 49 _ R4.out iM4.out (by rw [ml.out]; rfl) ?_; intro w5 R5 U5))
    refine ret_row rfl rfl (w.heap.size + 1) 49 _ (0, 0) _ rfl R5.out Try.underlying49 rfl iM4.out ⟨by rw [hnm.out], ?_⟩
    exact h4.out.trans (U5.out.below (fun k hk e => by omega) h4.out.size)

end Go.Proofs.Ytjbmdeppoobccaa
