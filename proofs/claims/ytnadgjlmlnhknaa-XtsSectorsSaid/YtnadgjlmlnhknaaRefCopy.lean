/-
  The reference of layer 1: Copy, Bytes. Conditions: texts not too long; numbers of their kind.
-/
import Derived.Test.YtnadgjlmlnhknaaTx
namespace Go.Proofs.Ytnadgjlmlnhknaa
open Go.RowKit

set_option maxRecDepth 100000 in
theorem ref_copy (w : World) (v : Value) (t : List Nat) (h : TextAt w v t) (hl : t.length ≤ 1000000000) :
    Calls Try.prog 56 #[v] w fun e w' => ∃ v', e = .returned v' ∧ Own w' w.heap.size 5 v' (u8l t) ∧ Below w.heap.size w w' := by
  obtain ⟨ao, cap, rfl, h1, h2, h3⟩ := h.ex
  have hnews := h3.news
  replace h3 := Lib.hid h3
  replace hnews := Lib.hid hnews
  go_enter Try.func56, Try.ntmps56
  go_wp2_with (at_builtin; refine wpList_append_x rfl (.tmp 4) (.tmp 5) 29 rfl 5 Try.underlying29 (.int .u8 0) 1 infoU8 rfl (by decide) w.heap.size w (.slice none 0 0) [] rfl (Own.nil _ _ _) (Below.refl _ _) (Nat.le_refl _) ao t.length cap (u8l t) rfl (by simp [u8l]) h2 hnews.out (u8l_one _) (by simpa using hl) ?_; intro v1 w1 hown hB hg hb)
  go_ret
  exact ⟨_, rfl, by simpa using hown.out, hB.out⟩
theorem beBytes_succ (n x : Nat) : beBytes (n + 1) x = [x / 256 ^ n % 256] ++ beBytes n x := by
  unfold beBytes
  rw [List.range_succ_eq_map]
  simp only [List.map_cons, List.map_map, List.singleton_append]
  congr 1
  refine List.map_congr_left fun i hi => ?_
  have := List.mem_range.1 hi
  simp only [Function.comp]
  congr 3; omega
set_option maxRecDepth 100000 in
theorem ref_bytes (w : World) (x n : Nat) (hn : n ≤ 8) (hx : x < 18446744073709551616) :
    Calls Try.prog 69 #[.int .u64 (x : Int), .int .i64 (n : Int)] w fun e w' => ∃ v', e = .returned v' ∧ Own w' w.heap.size 5 v' (u8l (beBytes n x)) ∧ Below w.heap.size w w' := by
  replace hx := Lib.hid hx
  go_enter Try.func69, Try.ntmps69
  go_wp2_with fail
  go_loopw [0, 5, 6] (fun y o i wr => ∃ k : Nat, k ≤ n ∧ y = .int .u64 ((x / 256 ^ k : Nat) : Int) ∧ i = .int .i64 k ∧ Own wr w.heap.size 5 o (u8l (beBytes k x)) ∧ Below w.heap.size w wr) (fun _ _ i _ => n - (intOf i).toNat)
  case atStart => exact ⟨0, Nat.zero_le _, by simp, rfl, Own.nil _ _ _, Below.refl _ _⟩
  case round =>
    obtain ⟨k, hk, rfl, rfl, hO, hB⟩ := hrel
    by_cases hlt : k < n
    · have ey : x / 256 ^ (k + 1) = x / 256 ^ k / 256 := by rw [Nat.pow_succ, Nat.div_div_eq_div_mul]
      have eb := beBytes_succ k x
      have hy : x / 256 ^ k < 18446744073709551616 := Nat.lt_of_le_of_lt (Nat.div_le_self _ _) hx.out
      obtain ⟨ao, cap, rfl, hc1, hc2, hby⟩ := (hO.text (beBytes_lt _ _)).ex
      have hs := hB.size
      generalize x / 256 ^ k = y at *
      have hown : Own (wr.alloc (.cells #[.int .u8 ((y : Int) % 256)] 5)) w.heap.size 5 (.slice (some ⟨wr.heap.size, 0, none⟩) 1 1) [.int .u8 ((y : Int) % 256)] := Own.made (xs := [_]) (heap_alloc_new _ _) hs (by simp [maxLen])
      have hnews := (hby.below (w' := wr.alloc (.cells #[.int .u8 ((y : Int) % 256)] 5)) ((Below.refl _ _).alloc (Nat.le_refl _) _)).news
      have hB1 := hB.alloc hs (.cells #[.int .u8 ((y : Int) % 256)] 5)
      have elist : [Value.int .u8 ((y : Int) % 256)] ++ u8l (beBytes k x) = u8l (beBytes (k + 1) x) := by rw [eb]; simp [u8l]
      replace hO := Lib.hid hO
      replace hB := Lib.hid hB
      replace hby := Lib.hid hby
      replace hown := Lib.hid hown
      replace hnews := Lib.hid hnews
      replace hB1 := Lib.hid hB1
      replace elist := Lib.hid elist
      replace ey := Lib.hid ey
      replace eb := Lib.hid eb
      go_wp2_with (at_builtin; refine wpList_append_x rfl (.tmp 15) (.tmp 16) 29 rfl 5 Try.underlying29 (.int .u8 0) 1 infoU8 rfl (by decide) w.heap.size w (.slice (some ⟨wr.heap.size, 0, none⟩) 1 1) [.int .u8 ((y : Int) % 256)] rfl hown.out hB1.out (by simp; omega) ao (beBytes k x).length cap (u8l (beBytes k x)) rfl (by simp [u8l]) hc2 hnews.out (u8l_one _) (by simp; omega) ?_; intro v1 w1 ho1 hB2 hg hb1)
      go_roundw
      case rel => exact ⟨k + 1, by omega, by rw [ey.out]; go_num, by go_num, by rw [← elist.out]; exact ho1.out, hB2.out⟩
      case measure => simp [intOf]; omega
    · obtain rfl : k = n := by omega
      replace hO := Lib.hid hO
      replace hB := Lib.hid hB
      go_wp2_with fail
      go_ret
      exact ⟨_, rfl, hO.out, hB.out⟩

end Go.Proofs.Ytnadgjlmlnhknaa
