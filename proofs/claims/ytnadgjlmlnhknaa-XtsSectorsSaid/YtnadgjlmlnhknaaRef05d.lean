/-
  The reference of layer 5: Back. Conditions: the cipher lies still; a block of sixteen bytes.
-/
import Derived.Test.YtnadgjlmlnhknaaRef05c
namespace Go.Proofs.Ytnadgjlmlnhknaa
open Go.RowKit

theorem back_sh (x : Nat → Nat) : bytesOf (fun i => gunb (byt (tab (shF (shF (shF x)))) i)) 16 = tab (rowsB gunb x) := bytesOf_congr fun i hi => by
  rw [sh_three, byt_tab _ hi]; rfl
set_option maxHeartbeats 4000000 in
set_option maxRecDepth 100000 in
theorem rback_any (w : World) (c : Nat) (aw : Option Addr) (cw : Nat) (vb vk : Value) (W : Nat → Nat) (hW : ∀ i, W i < 256) (hC : RefC w c aw cw vb vk W) (v : Value) (x : Nat → Nat) (hx : Bytes16 x) (hv : TextAt w v (tab x)) :
    Calls Try.prog 23 #[.pointer (some ⟨c, 0, none⟩), v] w fun e w' => ∃ v', e = .returned v' ∧ Own w' w.heap.size 5 v' (u8l (tab (backF W x))) ∧ Below w.heap.size w w' := by
  obtain ⟨ak, ck, rfl, nk⟩ := hC.unb.nth
  have lk : unbT.length = 256 := length_bytesOf _ _
  rw [lk] at nk
  have c2 : w.cell? ⟨c, 2, none⟩ = some (.slice ak 256 ck) := by
    rw [cell_of_row _ _ 2 _ _ _ hC.row, lk]; rfl
  have nk' : ∀ k, k < 256 → ∃ kb ko, ak = some ⟨kb, ko, none⟩ ∧ w.cell? ⟨kb, ko + k, none⟩ = some (.int .u8 (gunb k : Int)) := fun k hk => by
    obtain ⟨kb, ko, e, h1⟩ := nk k hk
    rw [show byt unbT k = gunb k from byt_bytesOf _ hk] at h1
    exact ⟨kb, ko, e, h1⟩
  clear nk
  rw [lk] at hC
  replace hC := Lib.hid hC
  replace hv := Lib.hid hv
  replace hx := Lib.hid hx
  replace hW := Lib.hid hW
  replace c2 := Lib.hid c2
  replace nk' := Lib.hid nk'
  replace lk := Lib.hid lk
  go_enter Try.func23, Try.ntmps23
  go_wp2_with fail
  go_loopw [1, 5] (fun bv rv wr => ∃ k r : Nat, k + r = 14 ∧ rv = .int .i64 (r : Int) ∧ TextAt wr bv (tab (backTo W x k)) ∧ Below w.heap.size w wr) (fun _ rv _ => (intOf rv).toNat)
  case atStart => exact ⟨0, 14, rfl, rfl, hv.out, Below.refl _ _⟩
  case round =>
    obtain ⟨k, r, hkr, rfl, hT, hB⟩ := hrel
    obtain ⟨wq, rfl⟩ : ∃ wq : World, wq = wr := ⟨_, rfl⟩
    by_cases hlt : 0 < r
    · have by0 := bytes_backTo hW.out hx.out k
      have er := backTo_succ W x k
      rw [show 14 - k = r by omega] at er
      generalize backTo W x k = y at *
      have c1 := rround_any wq c aw cw vb _ W hW.out (hC.out.below hB) r (by omega)
      have b2 := by0.add hW.out r
      replace hT := Lib.hid hT
      replace hB := Lib.hid hB
      replace by0 := Lib.hid by0
      replace er := Lib.hid er
      replace c1 := Lib.hid c1
      replace b2 := Lib.hid b2
      go_wp2_with fail
      refine c1.out.mono ?_
      rintro e w2 ⟨v2, rfl, o2, B2⟩
      have low2 := hB.out.trans (B2.mono hB.out.size)
      have c3 := rxored_any w2 _ v2 (tab y) _ (hT.out.below B2) (o2.text (bytesOf_lt fun i _ => hW.out _)) 16 (length_tab y) (by simp [length_bytesOf]) (by decide)
      rw [xored_tab] at c3
      clear c1 B2 o2 hB hT
      replace low2 := Lib.hid low2
      replace c3 := Lib.hid c3
      go_wp2_with fail
      refine c3.out.mono ?_
      rintro e w4 ⟨v4, rfl, o4, B4⟩
      have low4 := low2.out.trans (B4.mono low2.out.size)
      clear c3 low2 B4
      obtain ⟨y2, ey2⟩ : ∃ z, z = addF W r y := ⟨_, rfl⟩
      rw [← ey2] at b2 er o4
      have t4 := o4.text (tabs_lt b2.out)
      clear o4
      replace low4 := Lib.hid low4
      replace t4 := Lib.hid t4
      replace ey2 := Lib.hid ey2
      by_cases h13 : r < 14
      · have er : rowsB gunb (colsF 14 11 13 9 y2) = backTo W x (k + 1) := by rw [er.out]; unfold midB; rw [if_pos h13]
        have b6 := b2.out.cols (a := 14) (b := 11) (c := 13) (d := 9) (by decide) (by decide) (by decide) (by decide)
        have tl := litL (wx := w4) (l := [14, 11, 13, 9]) (by decide) (by decide)
        have Ba : Below w4.heap.size w4 (w4.alloc (.cells (u8s [14, 11, 13, 9]) 5)) := (Below.refl _ _).alloc (Nat.le_refl _) _
        have lowa := low4.out.trans (Ba.mono low4.out.size)
        have c6 := rcolumns_any _ v4 _ y2 b2.out [14, 11, 13, 9] ⟨rfl, by decide⟩ (t4.out.below Ba) tl
        rw [cols_tab] at c6
        clear tl Ba
        replace er := Lib.hid er
        replace b6 := Lib.hid b6
        replace c6 := Lib.hid c6
        replace lowa := Lib.hid lowa
        go_wp2_with fail
        refine c6.out.mono ?_
        rintro e w6 ⟨v6, rfl, o6', B6⟩
        have low6 := lowa.out.trans (B6.mono lowa.out.size)
        have t6 := o6'.text (tabs_lt b6.out)
        clear c6 B6 o6' lowa low4 t4 b2
        replace er := er.out
        obtain ⟨y6, ey6⟩ : ∃ z, z = colsF 14 11 13 9 y2 := ⟨_, rfl⟩
        rw [← ey6] at er b6 t6
        replace low6 := Lib.hid low6
        replace t6 := Lib.hid t6
        replace ey6 := Lib.hid ey6
        have c7 := rrows_any w6 v6 y6 b6.out t6.out
        replace er := Lib.hid er
        replace c7 := Lib.hid c7
        go_wp2_with fail
        refine c7.out.mono ?_
        rintro e w7 ⟨v7, rfl, o7, B7⟩
        have low7 := low6.out.trans (B7.mono low6.out.size)
        have b7 := b6.out.sh
        have c8 := rrows_any w7 v7 (shF y6) b7 (o7.text (tabs_lt b7))
        clear c7 B7 o7
        replace low7 := Lib.hid low7
        replace b7 := Lib.hid b7
        replace c8 := Lib.hid c8
        go_wp2_with fail
        refine c8.out.mono ?_
        rintro e w8 ⟨v8, rfl, o8, B8⟩
        have low8 := low7.out.trans (B8.mono low7.out.size)
        have b8 := b7.out.sh
        have c9 := rrows_any w8 v8 (shF (shF y6)) b8 (o8.text (tabs_lt b8))
        clear c8 B8 o8
        replace low8 := Lib.hid low8
        replace b8 := Lib.hid b8
        replace c9 := Lib.hid c9
        go_wp2_with fail
        refine c9.out.mono ?_
        rintro e w9 ⟨v9, rfl, o9, B9⟩
        have low9 := low8.out.trans (B9.mono low8.out.size)
        have b9 := b8.out.sh
        have t9 := o9.text (tabs_lt b9)
        replace er : bytesOf (fun i => gunb (byt (tab (shF (shF (shF y6)))) i)) 16 = tab (backTo W x (k + 1)) := by rw [back_sh]; exact congrArg tab er.out
        obtain ⟨ax, cx, rfl, nx⟩ := t9.nth
        rw [length_tab] at nx ⊢
        have nx' : ∀ i, i < 16 → ∃ xb xo, ax = some ⟨xb, xo, none⟩ ∧ w9.cell? ⟨xb, xo + i, none⟩ = some (.int .u8 (byt (tab (shF (shF (shF y6)))) i : Int)) := nx
        have sx := tabs_lt b9
        obtain ⟨X, eX⟩ : ∃ X, X = tab (shF (shF (shF y6))) := ⟨_, rfl⟩
        rw [← eX] at nx' sx er
        clear c9 B9 o9 t9 b9 b8 b7 nx low8 low7 low6 t6
        replace low9 := Lib.hid low9
        replace nx' := Lib.hid nx'
        replace sx := Lib.hid sx
        replace eX := Lib.hid eX
        replace er := Lib.hid er
        go_wp2_with fail
        go_loopw [6, 7] (fun o i wr => ∃ k : Nat, k ≤ 16 ∧ i = .int .i64 k ∧ Own wr w9.heap.size 5 o (u8l (bytesOf (fun i => gunb (byt X i)) k)) ∧ Below w9.heap.size w9 wr) (fun _ i _ => 16 - (intOf i).toNat)
        case atStart => exact ⟨0, Nat.zero_le _, rfl, Own.nil _ _ _, Below.refl _ _⟩
        case round =>
          obtain ⟨i, hi, rfl, iO, iB⟩ := hrel
          by_cases hit : i < 16
          · obtain ⟨xb, xo, rfl, cX⟩ := nx'.out i hit
            have bx := byt_lt sx.out i
            obtain ⟨kb, ko, rfl, cK⟩ := nk'.out (byt X i) bx
            have lowr := low9.out.trans (iB.mono low9.out.size)
            have key0 : ∀ w1, Below w9.heap.size w9 w1 → w1.cell? ⟨c, 2, none⟩ = some (.slice (some ⟨kb, ko, none⟩) 256 ck) := fun w1 hB1 => ((low9.out.trans (hB1.mono low9.out.size)).cell (block_lt_of_cell c2.out)).trans c2.out
            have keyX : ∀ w1, Below w9.heap.size w9 w1 → w1.cell? ⟨xb, xo + i, none⟩ = some (.int .u8 (byt X i : Int)) := fun w1 hB1 => (hB1.cell (block_lt_of_cell cX)).trans cX
            have keyK : ∀ w1, Below w9.heap.size w9 w1 → w1.cell? ⟨kb, ko + byt X i, none⟩ = some (.int .u8 (gunb (byt X i) : Int)) := fun w1 hB1 => ((low9.out.trans (hB1.mono low9.out.size)).cell (block_lt_of_cell cK)).trans cK
            have ld : gunb (byt X i) < 256 := gunb_lt bx
            have sn := bytesOf_snoc (fun i => gunb (byt X i)) i
            have hs := iB.size
            have ll : (bytesOf (fun i => gunb (byt X i)) i).length = i := length_bytesOf _ _
            generalize bytesOf (fun i => gunb (byt X i)) i = L at *
            generalize gunb (byt X i) = d at *
            generalize byt X i = xi at *
            have iX : (i : Int) < 16 := by omega
            have iK : (xi : Int) < 256 := by omega
            have hBd : Below w9.heap.size w9 wr.drew := iB.drew
            have q1 := key0 _ hBd
            have q2 := keyX _ hBd
            have q3 := keyK _ hBd
            have t1 := lit1 (wx := wr.drew) ld
            have hB1 : Below w9.heap.size w9 (wr.drew.alloc (.cells #[.int .u8 (d : Int)] 5)) := hBd.alloc hs _
            have O1 : Own (wr.drew.alloc (.cells #[.int .u8 (d : Int)] 5)) w9.heap.size 5 _ _ := iO.drew.alloc _
            clear cX cK lowr
            replace iO := Lib.hid iO
            replace iB := Lib.hid iB
            replace sn := Lib.hid sn
            replace key0 := Lib.hid key0
            replace keyX := Lib.hid keyX
            replace keyK := Lib.hid keyK
            replace bx := Lib.hid bx
            replace ld := Lib.hid ld
            replace t1 := Lib.hid t1
            replace hB1 := Lib.hid hB1
            replace O1 := Lib.hid O1
            replace hBd := Lib.hid hBd
            go_wp2_with fail
            refine wp_region_held_drew (S := (fun w' => w'.cell? ⟨c, 2, none⟩ = some (.slice (some ⟨kb, ko, none⟩) 256 ck) ∧ w'.cell? ⟨xb, xo + i, none⟩ = some (.int .u8 (xi : Int)) ∧ w'.cell? ⟨kb, ko + xi, none⟩ = some (.int .u8 (d : Int)))) (by kernel_rfl) (⟨q1, q2, q3⟩) (fun hHeld => ?_)
            refine held_take (i := 0) (v := ?_) rfl (by kernel_rfl) (by kernel_rfl) (by kernel_rfl) (fun _ _ _ h => h) (Or.inl ⟨by rfl, ?_⟩) (by assumption) ?_
            rotate_left
            · intro w hSw; (try dsimp only at hSw); go_simp; try with_reducible rfl
            try simp only [Act.put, List.setIfInBounds_toArray, List.set_cons_zero, List.set_cons_succ]
            refine held_take (i := 1) (v := ?_) rfl (by kernel_rfl) (by kernel_rfl) (by kernel_rfl) (fun _ _ _ h => h) (Or.inl ⟨by rfl, ?_⟩) (by assumption) ?_
            rotate_left
            · intro w hSw; (try dsimp only at hSw); go_simp; try with_reducible rfl
            try simp only [Act.put, List.setIfInBounds_toArray, List.set_cons_zero, List.set_cons_succ]
            refine held_take (i := 2) (v := ?_) rfl (by kernel_rfl) (by kernel_rfl) (by kernel_rfl) (fun _ _ _ h => h) (Or.inl ⟨by rfl, ?_⟩) (by assumption) ?_
            rotate_left
            · intro w hSw; (try dsimp only at hSw); go_simp; try with_reducible rfl
            try simp only [Act.put, List.setIfInBounds_toArray, List.set_cons_zero, List.set_cons_succ]
            refine held_take (i := 3) (v := ?_) rfl (by kernel_rfl) (by kernel_rfl) (by kernel_rfl) (fun _ _ _ h => h) (Or.inl ⟨by rfl, ?_⟩) (by assumption) ?_
            rotate_left
            · intro w hSw; (try dsimp only at hSw); go_simp; try with_reducible rfl
            try simp only [Act.put, List.setIfInBounds_toArray, List.set_cons_zero, List.set_cons_succ]
            refine held_take (i := 4) (v := ?_) rfl (by kernel_rfl) (by kernel_rfl) (by kernel_rfl) (fun _ _ _ h => h) (Or.inl ⟨by rfl, ?_⟩) (by assumption) ?_
            rotate_left
            · intro w hSw; (try dsimp only at hSw); go_simp; try with_reducible rfl
            try simp only [Act.put, List.setIfInBounds_toArray, List.set_cons_zero, List.set_cons_succ]
            refine held_take (i := 5) (v := ?_) rfl (by kernel_rfl) (by kernel_rfl) (by kernel_rfl) (fun _ _ _ h => h) (Or.inl ⟨by rfl, ?_⟩) (by assumption) ?_
            rotate_left
            · intro w hSw; (try dsimp only at hSw); go_simp; try with_reducible rfl
            try simp only [Act.put, List.setIfInBounds_toArray, List.set_cons_zero, List.set_cons_succ]
            refine held_take (i := 6) (v := ?_) rfl (by kernel_rfl) (by kernel_rfl) (by kernel_rfl) (fun _ _ _ h => h) (Or.inl ⟨by rfl, ?_⟩) (by assumption) ?_
            rotate_left
            · intro w hSw; (try dsimp only at hSw); go_simp; try with_reducible rfl
            try simp only [Act.put, List.setIfInBounds_toArray, List.set_cons_zero, List.set_cons_succ]
            refine held_take (i := 7) (v := ?_) rfl (by kernel_rfl) (by kernel_rfl) (by kernel_rfl) (fun _ _ _ h => h) (Or.inl ⟨by rfl, ?_⟩) (by assumption) ?_
            rotate_left
            · intro w hSw; (try dsimp only at hSw); go_simp; try with_reducible rfl
            try simp only [Act.put, List.setIfInBounds_toArray, List.set_cons_zero, List.set_cons_succ]
            refine held_take (i := 8) (v := ?_) rfl (by kernel_rfl) (by kernel_rfl) (by kernel_rfl) (fun _ _ _ h => h) (Or.inl ⟨by rfl, ?_⟩) (by assumption) ?_
            rotate_left
            · intro w hSw; (try dsimp only at hSw); go_simp; try with_reducible rfl
            try simp only [Act.put, List.setIfInBounds_toArray, List.set_cons_zero, List.set_cons_succ]
            refine held_take (i := 9) (v := ?_) rfl (by kernel_rfl) (by kernel_rfl) (by kernel_rfl) (fun _ _ _ h => h) (Or.inl ⟨by rfl, ?_⟩) (by assumption) ?_
            rotate_left
            · intro w hSw; (try dsimp only at hSw); go_simp; try with_reducible rfl
            try simp only [Act.put, List.setIfInBounds_toArray, List.set_cons_zero, List.set_cons_succ]
            refine held_take (i := 10) (v := ?_) rfl (by kernel_rfl) (by kernel_rfl) (by kernel_rfl) (fun _ _ _ h => h) (Or.inl ⟨by rfl, ?_⟩) (by assumption) ?_
            rotate_left
            · intro w hSw; (try dsimp only at hSw); go_simp; try with_reducible rfl
            try simp only [Act.put, List.setIfInBounds_toArray, List.set_cons_zero, List.set_cons_succ]
            refine held_ready (i := 11) rfl (by kernel_rfl) (fun K hK => ?_)
            rw [if_pos (by rfl)]
            go_simp
            refine hK.out _ _ (⟨key0.out _ hB1.out, keyX.out _ hB1.out, keyK.out _ hB1.out⟩) (fun hHeldN => ?_)
            clear hHeld hK K
            have hHeld := hHeldN
            clear hHeldN
            try simp only [Act.put, List.setIfInBounds_toArray, List.set_cons_zero, List.set_cons_succ]
            refine held_ready (i := 12) rfl (by kernel_rfl) (fun K hK => ?_)
            rw [if_pos (by rfl)]
            refine wp_append_t (.tmp 30) (.tmp 41) rfl w9.heap.size w9 _ L rfl O1.out hB1.out hB1.out.size _ [d] rfl t1.out (by rw [ll]; simp; omega) ?_
            intro v1 w1 O2 BB2 G2 H2
            rw [← sn.out] at O2
            refine hK.out _ _ (⟨key0.out _ BB2.out, keyX.out _ BB2.out, keyK.out _ BB2.out⟩) (fun hHeldN => ?_)
            clear hHeld hK K
            have hHeld := hHeldN
            clear hHeldN
            try simp only [Act.put, List.setIfInBounds_toArray, List.set_cons_zero, List.set_cons_succ]
            refine held_take (i := 13) (v := ?_) rfl (by kernel_rfl) (by kernel_rfl) (by kernel_rfl) (fun _ _ _ h => h) (Or.inl ⟨by rfl, ?_⟩) (by assumption) ?_
            rotate_left
            · intro w hSw; (try dsimp only at hSw); go_simp; try with_reducible rfl
            try simp only [Act.put, List.setIfInBounds_toArray, List.set_cons_zero, List.set_cons_succ]
            refine wpAnyH_done (by kernel_rfl) ?_ _
            clear hHeld
            go_wp2_with fail
            go_roundw
            case rel => exact ⟨i + 1, by omega, by go_num, O2.out, BB2.out⟩
            case measure => simp [intOf]; omega
          · obtain rfl : i = 16 := by omega
            have tE := iO.text (bytesOf_lt fun i _ => gunb_lt (byt_lt sx.out i))
            rw [er.out] at tE
            have lowE := low9.out.trans (iB.mono low9.out.size)
            replace iO := Lib.hid iO
            replace iB := Lib.hid iB
            replace tE := Lib.hid tE
            replace lowE := Lib.hid lowE
            go_wp2_with fail
            go_roundw
            case rel => exact ⟨k + 1, r - 1, by omega, by go_num, tE.out, lowE.out⟩
            case measure => simp [intOf]; omega
      · have er : rowsB gunb y2 = backTo W x (k + 1) := by rw [er.out]; unfold midB; rw [if_neg h13]
        have low6 := low4
        have t6 := t4
        have b6 := b2
        clear low4 t4 b2
        generalize y2 = y6 at *
        generalize w4 = w6 at *
        generalize v4 = v6 at *
        have c7 := rrows_any w6 v6 y6 b6.out t6.out
        replace er := Lib.hid er
        replace c7 := Lib.hid c7
        go_wp2_with fail
        refine c7.out.mono ?_
        rintro e w7 ⟨v7, rfl, o7, B7⟩
        have low7 := low6.out.trans (B7.mono low6.out.size)
        have b7 := b6.out.sh
        have c8 := rrows_any w7 v7 (shF y6) b7 (o7.text (tabs_lt b7))
        clear c7 B7 o7
        replace low7 := Lib.hid low7
        replace b7 := Lib.hid b7
        replace c8 := Lib.hid c8
        go_wp2_with fail
        refine c8.out.mono ?_
        rintro e w8 ⟨v8, rfl, o8, B8⟩
        have low8 := low7.out.trans (B8.mono low7.out.size)
        have b8 := b7.out.sh
        have c9 := rrows_any w8 v8 (shF (shF y6)) b8 (o8.text (tabs_lt b8))
        clear c8 B8 o8
        replace low8 := Lib.hid low8
        replace b8 := Lib.hid b8
        replace c9 := Lib.hid c9
        go_wp2_with fail
        refine c9.out.mono ?_
        rintro e w9 ⟨v9, rfl, o9, B9⟩
        have low9 := low8.out.trans (B9.mono low8.out.size)
        have b9 := b8.out.sh
        have t9 := o9.text (tabs_lt b9)
        replace er : bytesOf (fun i => gunb (byt (tab (shF (shF (shF y6)))) i)) 16 = tab (backTo W x (k + 1)) := by rw [back_sh]; exact congrArg tab er.out
        obtain ⟨ax, cx, rfl, nx⟩ := t9.nth
        rw [length_tab] at nx ⊢
        have nx' : ∀ i, i < 16 → ∃ xb xo, ax = some ⟨xb, xo, none⟩ ∧ w9.cell? ⟨xb, xo + i, none⟩ = some (.int .u8 (byt (tab (shF (shF (shF y6)))) i : Int)) := nx
        have sx := tabs_lt b9
        obtain ⟨X, eX⟩ : ∃ X, X = tab (shF (shF (shF y6))) := ⟨_, rfl⟩
        rw [← eX] at nx' sx er
        clear c9 B9 o9 t9 b9 b8 b7 nx low8 low7 low6 t6
        replace low9 := Lib.hid low9
        replace nx' := Lib.hid nx'
        replace sx := Lib.hid sx
        replace eX := Lib.hid eX
        replace er := Lib.hid er
        go_wp2_with fail
        go_loopw [6, 7] (fun o i wr => ∃ k : Nat, k ≤ 16 ∧ i = .int .i64 k ∧ Own wr w9.heap.size 5 o (u8l (bytesOf (fun i => gunb (byt X i)) k)) ∧ Below w9.heap.size w9 wr) (fun _ i _ => 16 - (intOf i).toNat)
        case atStart => exact ⟨0, Nat.zero_le _, rfl, Own.nil _ _ _, Below.refl _ _⟩
        case round =>
          obtain ⟨i, hi, rfl, iO, iB⟩ := hrel
          by_cases hit : i < 16
          · obtain ⟨xb, xo, rfl, cX⟩ := nx'.out i hit
            have bx := byt_lt sx.out i
            obtain ⟨kb, ko, rfl, cK⟩ := nk'.out (byt X i) bx
            have lowr := low9.out.trans (iB.mono low9.out.size)
            have key0 : ∀ w1, Below w9.heap.size w9 w1 → w1.cell? ⟨c, 2, none⟩ = some (.slice (some ⟨kb, ko, none⟩) 256 ck) := fun w1 hB1 => ((low9.out.trans (hB1.mono low9.out.size)).cell (block_lt_of_cell c2.out)).trans c2.out
            have keyX : ∀ w1, Below w9.heap.size w9 w1 → w1.cell? ⟨xb, xo + i, none⟩ = some (.int .u8 (byt X i : Int)) := fun w1 hB1 => (hB1.cell (block_lt_of_cell cX)).trans cX
            have keyK : ∀ w1, Below w9.heap.size w9 w1 → w1.cell? ⟨kb, ko + byt X i, none⟩ = some (.int .u8 (gunb (byt X i) : Int)) := fun w1 hB1 => ((low9.out.trans (hB1.mono low9.out.size)).cell (block_lt_of_cell cK)).trans cK
            have ld : gunb (byt X i) < 256 := gunb_lt bx
            have sn := bytesOf_snoc (fun i => gunb (byt X i)) i
            have hs := iB.size
            have ll : (bytesOf (fun i => gunb (byt X i)) i).length = i := length_bytesOf _ _
            generalize bytesOf (fun i => gunb (byt X i)) i = L at *
            generalize gunb (byt X i) = d at *
            generalize byt X i = xi at *
            have iX : (i : Int) < 16 := by omega
            have iK : (xi : Int) < 256 := by omega
            have hBd : Below w9.heap.size w9 wr.drew := iB.drew
            have q1 := key0 _ hBd
            have q2 := keyX _ hBd
            have q3 := keyK _ hBd
            have t1 := lit1 (wx := wr.drew) ld
            have hB1 : Below w9.heap.size w9 (wr.drew.alloc (.cells #[.int .u8 (d : Int)] 5)) := hBd.alloc hs _
            have O1 : Own (wr.drew.alloc (.cells #[.int .u8 (d : Int)] 5)) w9.heap.size 5 _ _ := iO.drew.alloc _
            clear cX cK lowr
            replace iO := Lib.hid iO
            replace iB := Lib.hid iB
            replace sn := Lib.hid sn
            replace key0 := Lib.hid key0
            replace keyX := Lib.hid keyX
            replace keyK := Lib.hid keyK
            replace bx := Lib.hid bx
            replace ld := Lib.hid ld
            replace t1 := Lib.hid t1
            replace hB1 := Lib.hid hB1
            replace O1 := Lib.hid O1
            replace hBd := Lib.hid hBd
            go_wp2_with fail
            refine wp_region_held_drew (S := (fun w' => w'.cell? ⟨c, 2, none⟩ = some (.slice (some ⟨kb, ko, none⟩) 256 ck) ∧ w'.cell? ⟨xb, xo + i, none⟩ = some (.int .u8 (xi : Int)) ∧ w'.cell? ⟨kb, ko + xi, none⟩ = some (.int .u8 (d : Int)))) (by kernel_rfl) (⟨q1, q2, q3⟩) (fun hHeld => ?_)
            refine held_take (i := 0) (v := ?_) rfl (by kernel_rfl) (by kernel_rfl) (by kernel_rfl) (fun _ _ _ h => h) (Or.inl ⟨by rfl, ?_⟩) (by assumption) ?_
            rotate_left
            · intro w hSw; (try dsimp only at hSw); go_simp; try with_reducible rfl
            try simp only [Act.put, List.setIfInBounds_toArray, List.set_cons_zero, List.set_cons_succ]
            refine held_take (i := 1) (v := ?_) rfl (by kernel_rfl) (by kernel_rfl) (by kernel_rfl) (fun _ _ _ h => h) (Or.inl ⟨by rfl, ?_⟩) (by assumption) ?_
            rotate_left
            · intro w hSw; (try dsimp only at hSw); go_simp; try with_reducible rfl
            try simp only [Act.put, List.setIfInBounds_toArray, List.set_cons_zero, List.set_cons_succ]
            refine held_take (i := 2) (v := ?_) rfl (by kernel_rfl) (by kernel_rfl) (by kernel_rfl) (fun _ _ _ h => h) (Or.inl ⟨by rfl, ?_⟩) (by assumption) ?_
            rotate_left
            · intro w hSw; (try dsimp only at hSw); go_simp; try with_reducible rfl
            try simp only [Act.put, List.setIfInBounds_toArray, List.set_cons_zero, List.set_cons_succ]
            refine held_take (i := 3) (v := ?_) rfl (by kernel_rfl) (by kernel_rfl) (by kernel_rfl) (fun _ _ _ h => h) (Or.inl ⟨by rfl, ?_⟩) (by assumption) ?_
            rotate_left
            · intro w hSw; (try dsimp only at hSw); go_simp; try with_reducible rfl
            try simp only [Act.put, List.setIfInBounds_toArray, List.set_cons_zero, List.set_cons_succ]
            refine held_take (i := 4) (v := ?_) rfl (by kernel_rfl) (by kernel_rfl) (by kernel_rfl) (fun _ _ _ h => h) (Or.inl ⟨by rfl, ?_⟩) (by assumption) ?_
            rotate_left
            · intro w hSw; (try dsimp only at hSw); go_simp; try with_reducible rfl
            try simp only [Act.put, List.setIfInBounds_toArray, List.set_cons_zero, List.set_cons_succ]
            refine held_take (i := 5) (v := ?_) rfl (by kernel_rfl) (by kernel_rfl) (by kernel_rfl) (fun _ _ _ h => h) (Or.inl ⟨by rfl, ?_⟩) (by assumption) ?_
            rotate_left
            · intro w hSw; (try dsimp only at hSw); go_simp; try with_reducible rfl
            try simp only [Act.put, List.setIfInBounds_toArray, List.set_cons_zero, List.set_cons_succ]
            refine held_take (i := 6) (v := ?_) rfl (by kernel_rfl) (by kernel_rfl) (by kernel_rfl) (fun _ _ _ h => h) (Or.inl ⟨by rfl, ?_⟩) (by assumption) ?_
            rotate_left
            · intro w hSw; (try dsimp only at hSw); go_simp; try with_reducible rfl
            try simp only [Act.put, List.setIfInBounds_toArray, List.set_cons_zero, List.set_cons_succ]
            refine held_take (i := 7) (v := ?_) rfl (by kernel_rfl) (by kernel_rfl) (by kernel_rfl) (fun _ _ _ h => h) (Or.inl ⟨by rfl, ?_⟩) (by assumption) ?_
            rotate_left
            · intro w hSw; (try dsimp only at hSw); go_simp; try with_reducible rfl
            try simp only [Act.put, List.setIfInBounds_toArray, List.set_cons_zero, List.set_cons_succ]
            refine held_take (i := 8) (v := ?_) rfl (by kernel_rfl) (by kernel_rfl) (by kernel_rfl) (fun _ _ _ h => h) (Or.inl ⟨by rfl, ?_⟩) (by assumption) ?_
            rotate_left
            · intro w hSw; (try dsimp only at hSw); go_simp; try with_reducible rfl
            try simp only [Act.put, List.setIfInBounds_toArray, List.set_cons_zero, List.set_cons_succ]
            refine held_take (i := 9) (v := ?_) rfl (by kernel_rfl) (by kernel_rfl) (by kernel_rfl) (fun _ _ _ h => h) (Or.inl ⟨by rfl, ?_⟩) (by assumption) ?_
            rotate_left
            · intro w hSw; (try dsimp only at hSw); go_simp; try with_reducible rfl
            try simp only [Act.put, List.setIfInBounds_toArray, List.set_cons_zero, List.set_cons_succ]
            refine held_take (i := 10) (v := ?_) rfl (by kernel_rfl) (by kernel_rfl) (by kernel_rfl) (fun _ _ _ h => h) (Or.inl ⟨by rfl, ?_⟩) (by assumption) ?_
            rotate_left
            · intro w hSw; (try dsimp only at hSw); go_simp; try with_reducible rfl
            try simp only [Act.put, List.setIfInBounds_toArray, List.set_cons_zero, List.set_cons_succ]
            refine held_ready (i := 11) rfl (by kernel_rfl) (fun K hK => ?_)
            rw [if_pos (by rfl)]
            go_simp
            refine hK.out _ _ (⟨key0.out _ hB1.out, keyX.out _ hB1.out, keyK.out _ hB1.out⟩) (fun hHeldN => ?_)
            clear hHeld hK K
            have hHeld := hHeldN
            clear hHeldN
            try simp only [Act.put, List.setIfInBounds_toArray, List.set_cons_zero, List.set_cons_succ]
            refine held_ready (i := 12) rfl (by kernel_rfl) (fun K hK => ?_)
            rw [if_pos (by rfl)]
            refine wp_append_t (.tmp 30) (.tmp 41) rfl w9.heap.size w9 _ L rfl O1.out hB1.out hB1.out.size _ [d] rfl t1.out (by rw [ll]; simp; omega) ?_
            intro v1 w1 O2 BB2 G2 H2
            rw [← sn.out] at O2
            refine hK.out _ _ (⟨key0.out _ BB2.out, keyX.out _ BB2.out, keyK.out _ BB2.out⟩) (fun hHeldN => ?_)
            clear hHeld hK K
            have hHeld := hHeldN
            clear hHeldN
            try simp only [Act.put, List.setIfInBounds_toArray, List.set_cons_zero, List.set_cons_succ]
            refine held_take (i := 13) (v := ?_) rfl (by kernel_rfl) (by kernel_rfl) (by kernel_rfl) (fun _ _ _ h => h) (Or.inl ⟨by rfl, ?_⟩) (by assumption) ?_
            rotate_left
            · intro w hSw; (try dsimp only at hSw); go_simp; try with_reducible rfl
            try simp only [Act.put, List.setIfInBounds_toArray, List.set_cons_zero, List.set_cons_succ]
            refine wpAnyH_done (by kernel_rfl) ?_ _
            clear hHeld
            go_wp2_with fail
            go_roundw
            case rel => exact ⟨i + 1, by omega, by go_num, O2.out, BB2.out⟩
            case measure => simp [intOf]; omega
          · obtain rfl : i = 16 := by omega
            have tE := iO.text (bytesOf_lt fun i _ => gunb_lt (byt_lt sx.out i))
            rw [er.out] at tE
            have lowE := low9.out.trans (iB.mono low9.out.size)
            replace iO := Lib.hid iO
            replace iB := Lib.hid iB
            replace tE := Lib.hid tE
            replace lowE := Lib.hid lowE
            go_wp2_with fail
            go_roundw
            case rel => exact ⟨k + 1, r - 1, by omega, by go_num, tE.out, lowE.out⟩
            case measure => simp [intOf]; omega
    · obtain rfl : r = 0 := by omega
      obtain rfl : k = 14 := by omega
      have by0 := bytes_backTo hW.out hx.out 14
      have c1 := rround_any wq c aw cw vb _ W hW.out (hC.out.below hB) 0 (by omega)
      replace hT := Lib.hid hT
      replace hB := Lib.hid hB
      replace by0 := Lib.hid by0
      replace c1 := Lib.hid c1
      go_wp2_with fail
      refine c1.out.mono ?_
      rintro e w2 ⟨v2, rfl, o2, B2⟩
      have low2 := hB.out.trans (B2.mono hB.out.size)
      have c3 := rxored_any w2 _ v2 (tab (backTo W x 14)) _ (hT.out.below B2) (o2.text (bytesOf_lt fun i _ => hW.out _)) 16 (length_tab _) (by simp [length_bytesOf]) (by decide)
      rw [xored_tab, show addF W 0 (backTo W x 14) = backF W x from rfl] at c3
      clear c1 B2 o2
      replace low2 := Lib.hid low2
      replace c3 := Lib.hid c3
      go_wp2_with fail
      refine c3.out.mono ?_
      rintro e w4 ⟨v4, rfl, o4, B4⟩
      have low4 := low2.out.trans (B4.mono low2.out.size)
      have o5 := o4.weaken low2.out.size
      clear c3 B4 o4
      replace low4 := Lib.hid low4
      replace o5 := Lib.hid o5
      go_wp2_with fail
      go_ret
      exact ⟨_, rfl, o5.out, low4.out⟩
end Go.Proofs.Ytnadgjlmlnhknaa
