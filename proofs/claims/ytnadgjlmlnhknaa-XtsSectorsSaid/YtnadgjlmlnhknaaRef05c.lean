/-
  The reference of layer 5: Turn and Back. Conditions: the cipher lies still; a block of sixteen bytes.
-/
import Derived.Test.YtnadgjlmlnhknaaRef05b
import Derived.Test.YtnadgjlmlnhknaaAesTurn
namespace Go.Proofs.Ytnadgjlmlnhknaa
open Go.RowKit

theorem tabs_lt {f : Nat → Nat} (h : Bytes16 f) : ∀ x ∈ tab f, x < 256 := bytesOf_lt (s := f) (len := 16) h
theorem boxed_tab (y : Nat → Nat) : bytesOf (fun i => gbox (byt (tab y) i)) 16 = tab (fun i => gbox (y i)) := bytesOf_congr fun i hi => by rw [byt_tab y hi]
theorem xored_tab (W y : Nat → Nat) (r : Nat) : bytesOf (xorF (tab y) (bytesOf (fun i => W (16 * r + i)) 16)) 16 = tab (addF W r y) := bytesOf_congr fun i hi => by
  unfold xorF addF
  rw [byt_tab y hi, byt_bytesOf _ hi]
theorem cols_tab (f0 f1 f2 f3 : Nat) (x : Nat → Nat) : tab (fun j => colTo [f0, f1, f2, f3] x j 4) = tab (colsF f0 f1 f2 f3 x) := tab_ext fun j _ => by
  unfold colsF
  show 0 ^^^ gmul f0 (x (4 * (j / 4) + (j + 0) % 4)) ^^^ gmul f1 (x (4 * (j / 4) + (j + 1) % 4)) ^^^ gmul f2 (x (4 * (j / 4) + (j + 2) % 4)) ^^^ gmul f3 (x (4 * (j / 4) + (j + 3) % 4)) = _
  rw [Nat.zero_xor]
theorem sh_three (x : Nat → Nat) : tab (shF (shF (shF x))) = tab (fun i => x ((i + 12 * (i % 4)) % 16)) := tab_ext fun i hi => by
  unfold shF
  congr 1; omega
theorem Bytes16.sh {x : Nat → Nat} (h : Bytes16 x) : Bytes16 (shF x) := fun i _ => h _ (Nat.mod_lt _ (by decide))
/-- A literal of bytes, just made, as a text. -/
theorem litL {wx : World} {l : List Nat} (hs : ∀ x ∈ l, x < 256) (_h0 : 0 < l.length) : TextAt (wx.alloc (.cells (u8s l) 5)) (.slice (some ⟨wx.heap.size, 0, none⟩) l.length l.length) l := by
  refine ⟨some ⟨wx.heap.size, 0, none⟩, l.length, rfl, Nat.le_refl _, fun e => by simp at e, fun i hi => ?_⟩
  refine ⟨byt_lt hs i, wx.heap.size, 0, rfl, ?_⟩
  rw [Nat.zero_add]
  have r : RowB (wx.alloc (.cells (u8s l) 5)) wx.heap.size 5 l := heap_alloc_new _ _
  exact r.byt hi

set_option maxHeartbeats 4000000 in
set_option maxRecDepth 100000 in
theorem rturn_any (w : World) (c : Nat) (aw : Option Addr) (cw : Nat) (vb vk : Value) (W : Nat → Nat) (hW : ∀ i, W i < 256) (hC : RefC w c aw cw vb vk W) (v : Value) (x : Nat → Nat) (hx : Bytes16 x) (hv : TextAt w v (tab x)) :
    Calls Try.prog 22 #[.pointer (some ⟨c, 0, none⟩), v] w fun e w' => ∃ v', e = .returned v' ∧ Own w' w.heap.size 5 v' (u8l (tab (turnF W x))) ∧ Below w.heap.size w w' := by
  have r0 := rround_any w c aw cw vb vk W hW hC 0 (by decide)
  replace hC := Lib.hid hC
  replace hv := Lib.hid hv
  replace hx := Lib.hid hx
  replace hW := Lib.hid hW
  replace r0 := Lib.hid r0
  go_enter Try.func22, Try.ntmps22
  go_wp2_with fail
  refine r0.out.mono ?_
  rintro e w1 ⟨v1, rfl, o1, B1⟩
  have t1 := o1.text (bytesOf_lt fun i _ => hW.out _)
  have xx := rxored_any w1 v v1 (tab x) _ (hv.out.below B1) t1 16 (length_tab x) (by simp [length_bytesOf]) (by decide)
  rw [xored_tab] at xx
  replace o1 := Lib.hid o1
  replace B1 := Lib.hid B1
  replace t1 := Lib.hid t1
  replace xx := Lib.hid xx
  go_wp2_with fail
  refine xx.out.mono ?_
  rintro e w2 ⟨v2, rfl, o2, B2⟩
  have low2 := B1.out.trans (B2.mono B1.out.size)
  have o2' := o2.weaken B1.out.size
  clear o2 B2 xx r0 o1 B1 t1
  replace low2 := Lib.hid low2
  replace o2' := Lib.hid o2'
  go_wp2_with fail
  go_loopw [1, 5] (fun bv rv wr => ∃ r : Nat, r ≤ 14 ∧ rv = .int .i64 ((r : Int) + 1) ∧ Own wr w.heap.size 5 bv (u8l (tab (turnTo W x r))) ∧ Below w.heap.size w wr) (fun _ rv _ => 15 - (intOf rv).toNat)
  case atStart => exact ⟨0, by decide, rfl, o2'.out, low2.out⟩
  case round =>
    clear low2 o2'
    obtain ⟨r, hr, rfl, hO, hB⟩ := hrel
    by_cases hlt : r < 14
    · have by0 := bytes_turnTo hW.out hx.out r
      have er := turnTo_succ W x r
      generalize turnTo W x r = y at *
      have c1 := rboxed_any wr c aw cw vb vk W (hC.out.below hB) _ (tab y) (hO.text (tabs_lt by0)) 16 (length_tab y) (by decide)
      rw [boxed_tab] at c1
      have bx : Bytes16 (fun i => gbox (y i)) := fun i hi => gbox_lt (by0 i hi)
      replace hO := Lib.hid hO
      replace hB := Lib.hid hB
      replace by0 := Lib.hid by0
      replace er := Lib.hid er
      replace c1 := Lib.hid c1
      replace bx := Lib.hid bx
      go_wp2_with fail
      refine c1.out.mono ?_
      rintro e w3 ⟨v3, rfl, o3, B3⟩
      have low3 := hB.out.trans (B3.mono hB.out.size)
      have c3 := rrows_any w3 v3 _ bx.out (o3.text (tabs_lt bx.out))
      rw [show shF (fun i => gbox (y i)) = rowsF gbox y from rfl] at c3
      clear c1 bx
      replace o3 := Lib.hid o3
      replace B3 := Lib.hid B3
      replace low3 := Lib.hid low3
      replace c3 := Lib.hid c3
      go_wp2_with fail
      refine c3.out.mono ?_
      rintro e w4 ⟨v4, rfl, o4, B4⟩
      have low4 := low3.out.trans (B4.mono low3.out.size)
      have b5 := by0.out.rows
      have o4' := o4.weaken low3.out.size
      clear c3 o3 low3 B3 B4 o4
      obtain ⟨y5, ey5⟩ : ∃ z, z = rowsF gbox y := ⟨_, rfl⟩
      rw [← ey5] at b5 o4'
      by_cases h13 : r + 1 < 14
      · have er : addF W (r + 1) (colsF 2 3 1 1 y5) = turnTo W x (r + 1) := by rw [er.out]; unfold midF; rw [if_pos h13, ← ey5]
        have b6 := b5.cols (a := 2) (b := 3) (c := 1) (d := 1) (by decide) (by decide) (by decide) (by decide)
        have tl := litL (wx := w4) (l := [2, 3, 1, 1]) (by decide) (by decide)
        have Ba : Below w4.heap.size w4 (w4.alloc (.cells (u8s [2, 3, 1, 1]) 5)) := (Below.refl _ _).alloc (Nat.le_refl _) _
        have lowa := low4.trans (Ba.mono low4.size)
        have c6 := rcolumns_any _ v4 _ y5 b5 [2, 3, 1, 1] ⟨rfl, by decide⟩ ((o4'.text (tabs_lt b5)).below Ba) tl
        rw [cols_tab] at c6
        clear tl Ba
        replace er := Lib.hid er
        replace b5 := Lib.hid b5
        replace b6 := Lib.hid b6
        replace c6 := Lib.hid c6
        replace lowa := Lib.hid lowa
        replace low4 := Lib.hid low4
        replace o4' := Lib.hid o4'
        replace ey5 := Lib.hid ey5
        go_wp2_with fail
        refine c6.out.mono ?_
        rintro e w6 ⟨v6, rfl, o6', B6⟩
        have low6 := lowa.out.trans (B6.mono lowa.out.size)
        have o6 := o6'.weaken lowa.out.size
        clear c6 B6 o6' lowa low4 o4'
        replace er := er.out
        generalize colsF 2 3 1 1 y5 = y6 at *
        replace low6 := Lib.hid low6
        replace o6 := Lib.hid o6
        have c7 := rround_any w6 c aw cw vb vk W hW.out (hC.out.below low6.out) (r + 1) (by omega)
        rw [show (((r + 1 : Nat) : Int)) = (r : Int) + 1 by omega] at c7
        replace c7 := Lib.hid c7
        replace er := Lib.hid er
        go_wp2_with fail
        refine c7.out.mono ?_
        rintro e w7 ⟨v7, rfl, o7, B7⟩
        have low7 := low6.out.trans (B7.mono low6.out.size)
        have c8 := rxored_any w7 v6 v7 (tab y6) _ ((o6.out.text (tabs_lt b6.out)).below B7) (o7.text (bytesOf_lt fun i _ => hW.out _)) 16 (length_tab y6) (by simp [length_bytesOf]) (by decide)
        rw [xored_tab] at c8
        clear c7 B7 o7
        replace low7 := Lib.hid low7
        replace c8 := Lib.hid c8
        go_wp2_with fail
        refine c8.out.mono ?_
        rintro e w8 ⟨v8, rfl, o8, B8⟩
        have low8 := low7.out.trans (B8.mono low7.out.size)
        have o9 := o8.weaken low7.out.size
        rw [er.out] at o9
        clear c8 B8 o8
        replace low8 := Lib.hid low8
        replace o9 := Lib.hid o9
        go_wp2_with fail
        go_roundw
        case rel => exact ⟨r + 1, by omega, by go_num, o9.out, low8.out⟩
        case measure => simp [intOf]; omega
      · have er : addF W (r + 1) y5 = turnTo W x (r + 1) := by rw [er.out]; unfold midF; rw [if_neg h13, ← ey5]
        have low6 := low4
        have o6 := o4'
        have b6 := Lib.hid b5
        clear low4 o4' b5
        generalize y5 = y6 at *
        generalize w4 = w6 at *
        generalize v4 = v6 at *
        replace low6 := Lib.hid low6
        replace o6 := Lib.hid o6
        replace ey5 := Lib.hid ey5
        have c7 := rround_any w6 c aw cw vb vk W hW.out (hC.out.below low6.out) (r + 1) (by omega)
        rw [show (((r + 1 : Nat) : Int)) = (r : Int) + 1 by omega] at c7
        replace c7 := Lib.hid c7
        replace er := Lib.hid er
        go_wp2_with fail
        refine c7.out.mono ?_
        rintro e w7 ⟨v7, rfl, o7, B7⟩
        have low7 := low6.out.trans (B7.mono low6.out.size)
        have c8 := rxored_any w7 v6 v7 (tab y6) _ ((o6.out.text (tabs_lt b6.out)).below B7) (o7.text (bytesOf_lt fun i _ => hW.out _)) 16 (length_tab y6) (by simp [length_bytesOf]) (by decide)
        rw [xored_tab] at c8
        clear c7 B7 o7
        replace low7 := Lib.hid low7
        replace c8 := Lib.hid c8
        go_wp2_with fail
        refine c8.out.mono ?_
        rintro e w8 ⟨v8, rfl, o8, B8⟩
        have low8 := low7.out.trans (B8.mono low7.out.size)
        have o9 := o8.weaken low7.out.size
        rw [er.out] at o9
        clear c8 B8 o8
        replace low8 := Lib.hid low8
        replace o9 := Lib.hid o9
        go_wp2_with fail
        go_roundw
        case rel => exact ⟨r + 1, by omega, by go_num, o9.out, low8.out⟩
        case measure => simp [intOf]; omega
    · obtain rfl : r = 14 := by omega
      have eT : turnTo W x 14 = turnF W x := rfl
      rw [eT] at hO
      clear eT
      replace hO := Lib.hid hO
      replace hB := Lib.hid hB
      go_wp2_with fail
      go_ret
      exact ⟨_, rfl, hO.out, hB.out⟩
end Go.Proofs.Ytnadgjlmlnhknaa
