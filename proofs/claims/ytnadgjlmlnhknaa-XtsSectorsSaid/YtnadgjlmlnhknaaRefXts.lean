/-
  The reference of layer 6: Double, Tweak. Conditions: sixteen bytes; a stamp of 64 digits.
-/
import Derived.Test.YtnadgjlmlnhknaaXtsDouble
import Derived.Test.YtnadgjlmlnhknaaWrapDo
namespace Go.Proofs.Ytnadgjlmlnhknaa
open Go.RowKit

theorem dbl_sum {a c : Nat} (ha : a < 256) (hc : c < 2) : a % 128 * 2 + c = 2 * a % 256 ||| c := by
  have h0 := eq_of_beq (of_all (p := fun a => (a % 128 * 2 + 0) == (2 * a % 256 ||| 0)) (by decide +kernel) ha)
  have h1 := eq_of_beq (of_all (p := fun a => (a % 128 * 2 + 1) == (2 * a % 256 ||| 1)) (by decide +kernel) ha)
  rcases (show c = 0 ∨ c = 1 by omega) with rfl | rfl
  · exact h0
  · exact h1
theorem bytesOf_snoc (s : Nat → Nat) (k : Nat) : bytesOf s (k + 1) = bytesOf s k ++ [s k] := by
  simp [bytesOf, List.range_succ]
theorem u8l_snoc (s : Nat → Nat) (k : Nat) : u8l (bytesOf s k) ++ [Value.int .u8 (s k : Int)] = u8l (bytesOf s (k + 1)) := by
  rw [bytesOf_snoc]; simp [u8l]

set_option maxHeartbeats 4000000 in
set_option maxRecDepth 100000 in
theorem ref_double (w : World) (v : Value) (m : Nat → Nat) (hm : Bytes16 m) (hv : TextAt w v (tab m)) :
    Calls Try.prog 28 #[v] w fun e w' => ∃ v', e = .returned v' ∧ Own w' w.heap.size 5 v' (u8l (tab (dblM m))) ∧ Below w.heap.size w w' := by
  obtain ⟨ao, cap, rfl, _, _, hby⟩ := hv.ex
  rw [length_tab] at hby ⊢
  obtain ⟨_, ob, oo, rfl, _⟩ := hby 0 (by decide)
  have hc : ∀ i, i < 16 → w.cell? ⟨ob, oo + i, none⟩ = some (.int .u8 (m i : Int)) := fun i hi => by
    obtain ⟨_, ob', oo', e, h1⟩ := hby i hi
    cases e
    rw [byt_tab m hi] at h1
    exact h1
  replace hm := Lib.hid hm
  replace hv := Lib.hid hv
  replace hby := Lib.hid hby
  replace hc := Lib.hid hc
  go_enter Try.func28, Try.ntmps28
  go_wp2_with fail
  go_loopw [3, 4, 5] (fun o c i wr => ∃ k : Nat, k ≤ 16 ∧ c = .int .u8 (cry m k : Int) ∧ i = .int .i64 k ∧ Own wr w.heap.size 5 o (u8l (bytesOf (dbl0 m) k)) ∧ Below w.heap.size w wr) (fun _ _ i _ => 16 - (intOf i).toNat)
  case atStart => exact ⟨0, Nat.zero_le _, rfl, rfl, Own.nil _ _ _, Below.refl _ _⟩
  case round =>
    obtain ⟨k, hk, rfl, rfl, hO, hB⟩ := hrel
    have hcry := cry_lt hm.out hk
    by_cases hlt : k < 16
    · have mk := hm.out k hlt
      have ck := (hB.cell (block_lt_of_cell (hc.out k hlt))).trans (hc.out k hlt)
      have ed : m k % 128 * 2 + cry m k = dbl0 m k := dbl_sum mk hcry
      have en : cry m (k + 1) = m k / 128 := rfl
      have sn := u8l_snoc (dbl0 m) k
      have ld : dbl0 m k < 256 := dbl0_lt hm.out k hlt
      have hs := hB.size
      have hl : (u8l (bytesOf (dbl0 m) k)).length = k := by simp [u8l]
      generalize u8l (bytesOf (dbl0 m) k) = xs at *
      generalize cry m k = c at *
      generalize hx : m k = x at *
      generalize hd : dbl0 m k = d at *
      have f1 : ((x : Int) % 128 * 2) % 256 = (x : Int) % 128 * 2 := by omega
      have f2 : ((x : Int) % 128 * 2 + (c : Int)) % 256 = (d : Int) := by omega
      have f3 : ((x : Int)).tmod 128 = (x : Int) % 128 := Int.tmod_eq_emod_of_nonneg (by omega)
      have g1 : IntKind.u8.wrap ((x : Int) % 128 * 2) = (x : Int) % 128 * 2 := by rw [IntKind.wrap_u8]; omega
      have g2 : IntKind.u8.wrap ((x : Int) % 128 * 2 + (c : Int)) = (d : Int) := by rw [IntKind.wrap_u8]; omega
      have key : ∀ w1, Below w.heap.size w w1 → w1.cell? ⟨ob, oo + k, none⟩ = some (.int .u8 (x : Int)) := fun w1 hB1 => by
        rw [← hx]
        exact (hB1.cell (block_lt_of_cell (hc.out k hlt))).trans (hc.out k hlt)
      have hB1 := hB.alloc hs (.cells #[.int .u8 (d : Int)] 5)
      have hO1 := hO.alloc (.cells #[.int .u8 (d : Int)] 5)
      have hs1 : w.heap.size ≤ (wr.alloc (.cells #[.int .u8 (d : Int)] 5)).heap.size := hB1.size
      replace hO := Lib.hid hO
      replace hB := Lib.hid hB
      replace en := Lib.hid en
      replace sn := Lib.hid sn
      replace hl := Lib.hid hl
      replace hx := Lib.hid hx
      replace hd := Lib.hid hd
      replace ed := Lib.hid ed
      replace key := Lib.hid key
      replace hB1 := Lib.hid hB1
      replace hO1 := Lib.hid hO1
      replace hs1 := Lib.hid hs1
      go_wp2_with (at_builtin; refine wpList_append_x rfl (.tmp 10) (.tmp 19) 29 rfl 5 Try.underlying29 (.int .u8 0) 1 infoU8 rfl (by decide) w.heap.size w _ xs rfl hO1.out hB1.out hs1.out (some ⟨wr.heap.size, 0, none⟩) 1 1 [.int .u8 (d : Int)] rfl rfl (fun e => by simp at e) one_cell (by simp [Value.oneCell']) (by rw [hl.out]; omega) ?_; intro v1 w1 O1 B1 G1 H1; have ck1 := key.out w1 B1.out)
      go_roundw
      case rel => exact ⟨k + 1, by omega, by rw [en.out]; go_num, by go_num, by rw [← sn.out]; exact O1.out, B1.out⟩
      case measure => simp [intOf]; omega
    · obtain rfl : k = 16 := by omega
      have ec : cry m 16 = m 15 / 128 := rfl
      obtain ⟨ao, cap2, rfl, _⟩ := (hO.text (bytesOf_lt (fun i hi => dbl0_lt hm.out i hi))).ex
      have hlen : (bytesOf (dbl0 m) 16).length = 16 := length_bytesOf _ _
      rw [hlen] at hO ⊢
      by_cases hx : cry m 16 = 1
      · have hg : ∃ g, ao = some ⟨g, 0, none⟩ ∧ w.heap.size ≤ g := by
          rcases hO.2 with ⟨e, _⟩ | ⟨g, cap', cur, e, hb, _⟩
          · simp at e
          · simp at e
            exact ⟨g, e.1, hb⟩
        obtain ⟨g, rfl, hwg⟩ := hg
        have hb0 : BlkAt wr g 5 cap2 16 (byt (bytesOf (dbl0 m) 16)) := by
          have h := BlkAt.ofOwn (l := bytesOf (dbl0 m) 16) (by rw [hlen]; exact hO)
          rwa [hlen] at h
        have c0 := hb0.cell (j := 0) (by decide)
        rw [byt_bytesOf _ (by decide)] at c0
        have fr := hb0.froz 0
        have ex : bits .xor .u8 (dbl0 m 0 : Int) 135 = ((dbl0 m 0 ^^^ 135 : Nat) : Int) := u8_xor_nat (dbl0 m 0) 135 (dbl0_lt hm.out 0 (by decide)) (by decide)
        have nb := hb0.set 0 (dbl0 m 0 ^^^ 135)
        have no := nb.own (base := w.heap.size) hwg (by
          rcases hO.2 with ⟨e, _⟩ | ⟨g', cap', cur, e, _, _, _, hm', _⟩
          · simp at e
          · simp at e
            rw [e.2.2]; exact hm')
        have eT : bytesOf (fun j => if j = 0 then dbl0 m 0 ^^^ 135 else byt (bytesOf (dbl0 m) 16) j) 16 = tab (dblM m) := by
          show bytesOf _ 16 = bytesOf (dblM m) 16
          refine bytesOf_congr fun j hj => ?_
          unfold dblM
          by_cases h0 : j = 0
          · rw [if_pos h0, if_pos ⟨h0, ec ▸ hx⟩]
          · rw [if_neg h0, if_neg (fun h => h0 h.1), byt_bytesOf _ hj]
        rw [eT] at no
        have nB := hB.setCell (p := ⟨g, 0, none⟩) hwg (.int .u8 ((dbl0 m 0 ^^^ 135 : Nat) : Int))
        rw [hx]
        generalize dbl0 m 0 ^^^ 135 = d2 at *
        generalize dbl0 m 0 = d at *
        replace hO := Lib.hid hO
        replace hB := Lib.hid hB
        replace hb0 := Lib.hid hb0
        replace nb := Lib.hid nb
        replace no := Lib.hid no
        replace nB := Lib.hid nB
        replace eT := Lib.hid eT
        replace hx := Lib.hid hx
        replace ec := Lib.hid ec
        replace hlen := Lib.hid hlen
        go_wp2_with fail
        go_ret
        exact ⟨_, rfl, no.out, nB.out⟩
      · have h0 : cry m 16 = 0 := by omega
        have eT : bytesOf (dbl0 m) 16 = tab (dblM m) := by
          show bytesOf _ 16 = bytesOf (dblM m) 16
          refine bytesOf_congr fun j hj => ?_
          unfold dblM
          rw [if_neg (fun h => hx (ec ▸ h.2))]
        rw [eT] at hO
        rw [h0]
        replace hO := Lib.hid hO
        replace hB := Lib.hid hB
        replace hx := Lib.hid hx
        replace ec := Lib.hid ec
        replace hlen := Lib.hid hlen
        replace eT := Lib.hid eT
        go_wp2_with fail
        go_ret
        exact ⟨_, rfl, hO.out, hB.out⟩

set_option maxHeartbeats 4000000 in
set_option maxRecDepth 100000 in
theorem ref_tweak (w : World) (s : Nat) (hs : s < 18446744073709551616) :
    Calls Try.prog 29 #[.int .u64 (s : Int)] w fun e w' => ∃ v', e = .returned v' ∧ Own w' w.heap.size 5 v' (u8l (tab (twk s))) ∧ Below w.heap.size w w' := by
  replace hs := Lib.hid hs
  go_enter Try.func29, Try.ntmps29
  go_wp2_with fail
  go_loopw [0, 3, 4] (fun y o i wr => ∃ k : Nat, k ≤ 16 ∧ y = .int .u64 ((s / 256 ^ k : Nat) : Int) ∧ i = .int .i64 k ∧ Own wr w.heap.size 5 o (u8l (bytesOf (twk s) k)) ∧ Below w.heap.size w wr) (fun _ _ i _ => 16 - (intOf i).toNat)
  case atStart => exact ⟨0, Nat.zero_le _, by simp, rfl, Own.nil _ _ _, Below.refl _ _⟩
  case round =>
    obtain ⟨k, hk, rfl, rfl, hO, hB⟩ := hrel
    by_cases hlt : k < 16
    · have ey : s / 256 ^ (k + 1) = s / 256 ^ k / 256 := by rw [Nat.pow_succ, Nat.div_div_eq_div_mul]
      have et : s / 256 ^ k % 256 = twk s k := by
        unfold twk
        by_cases h8 : k < 8
        · rw [if_pos h8]
        · rw [if_neg h8, Nat.div_eq_of_lt (Nat.lt_of_lt_of_le hs.out (Nat.pow_le_pow_right (n := 256) (by decide) (show 8 ≤ k by omega)))]
      have hy : s / 256 ^ k < 18446744073709551616 := Nat.lt_of_le_of_lt (Nat.div_le_self _ _) hs.out
      have sn := u8l_snoc (twk s) k
      have hb := hB.size
      have hl : (u8l (bytesOf (twk s) k)).length = k := by simp [u8l]
      generalize u8l (bytesOf (twk s) k) = xs at *
      generalize s / 256 ^ k = y at *
      generalize twk s k = d at *
      have g1 : (y : Int) % 256 = (d : Int) := by omega
      have g3 : ((y : Int)).tmod 256 = (d : Int) := by rw [Int.tmod_eq_emod_of_nonneg (by omega)]; omega
      have g2 : IntKind.u8.wrap (d : Int) = (d : Int) := by rw [IntKind.wrap_u8]; omega
      have hB1 := hB.alloc hb (.cells #[.int .u8 (d : Int)] 5)
      have hO1 := hO.alloc (.cells #[.int .u8 (d : Int)] 5)
      have hs1 : w.heap.size ≤ (wr.alloc (.cells #[.int .u8 (d : Int)] 5)).heap.size := hB1.size
      replace hO := Lib.hid hO
      replace hB := Lib.hid hB
      replace ey := Lib.hid ey
      replace sn := Lib.hid sn
      replace hl := Lib.hid hl
      replace et := Lib.hid et
      replace hB1 := Lib.hid hB1
      replace hO1 := Lib.hid hO1
      replace hs1 := Lib.hid hs1
      go_wp2_with (at_builtin; refine wpList_append_x rfl (.tmp 9) (.tmp 13) 29 rfl 5 Try.underlying29 (.int .u8 0) 1 infoU8 rfl (by decide) w.heap.size w _ xs rfl hO1.out hB1.out hs1.out (some ⟨wr.heap.size, 0, none⟩) 1 1 [.int .u8 (d : Int)] rfl rfl (fun e => by simp at e) one_cell (by simp [Value.oneCell']) (by rw [hl.out]; omega) ?_; intro v1 w1 O1 B1 G1 H1)
      go_roundw
      case rel => exact ⟨k + 1, by omega, by rw [ey.out]; go_num, by go_num, by rw [← sn.out]; exact O1.out, B1.out⟩
      case measure => simp [intOf]; omega
    · obtain rfl : k = 16 := by omega
      replace hO := Lib.hid hO
      replace hB := Lib.hid hB
      go_wp2_with fail
      go_ret
      exact ⟨_, rfl, hO.out, hB.out⟩
end Go.Proofs.Ytnadgjlmlnhknaa
