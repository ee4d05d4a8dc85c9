/-
  The reference of layer 1: Copy, Number, Bytes. Conditions: texts not too long; numbers of their kind.
-/
import Derived.Test.YtjbmdeppoobccaaOwn
import Derived.Test.YtjbmdeppoobccaaOctet
import Derived.Test.YtjbmdeppoobccaaOctetPut
import Derived.Test.YtjbmdeppoobccaaShaWrite
namespace Go.Proofs.Ytjbmdeppoobccaa
open Go.RowKit

/-- A slice of bytes that holds text t. -/
structure TextAt (w : World) (v : Value) (t : List Nat) : Prop where
  ex : ∃ ao cap, v = .slice ao t.length cap ∧ t.length ≤ cap ∧ (ao = none → cap = 0) ∧ BytesAt w ao t.length (byt t)
theorem TextAt.below {w w' : World} {v : Value} {t : List Nat} (h : TextAt w v t) (hB : Below w.heap.size w w') : TextAt w' v t := by
  obtain ⟨ao, cap, e, h1, h2, h3⟩ := h.ex
  exact ⟨ao, cap, e, h1, h2, h3.below hB⟩
theorem TextAt.small {w : World} {v : Value} {t : List Nat} (h : TextAt w v t) : ∀ x ∈ t, x < 256 := by
  obtain ⟨ao, cap, e, h1, h2, h3⟩ := h.ex
  intro x hx
  obtain ⟨i, hi, rfl⟩ := List.mem_iff_getElem.1 hx
  have := (h3 i hi).1
  simpa [byt, List.getD, hi] using this
theorem BytesAt.news {w : World} {ao : Option Addr} {t : List Nat} (h : BytesAt w ao t.length (byt t)) : ∀ j u, (u8l t)[j]? = some u → ∃ ad, ao = some ad ∧ w.cell? (ad.add j) = some u := by
  intro j u hu
  have hj : j < t.length := by
    have := (List.getElem?_eq_some_iff.1 hu).1
    simpa [u8l] using this
  obtain ⟨_, ob, oo, e, hc⟩ := h j hj
  refine ⟨_, e, ?_⟩
  rw [Addr.add_lit, hc, ← hu]
  simp [u8l, byt, List.getD, hj]
theorem Own.text {w : World} {base : Nat} {v : Value} {t : List Nat} (h : Own w base 5 v (u8l t)) (hs : ∀ x ∈ t, x < 256) : TextAt w v t := by
  obtain ⟨ao, cap, e, h1, _, h2, _, h4⟩ := h.form
  have hl : (u8l t).length = t.length := by simp [u8l]
  rw [hl] at e h1 h2
  refine ⟨ao, cap, e, h1, fun hn => (h2 hn).2, fun i hi => ?_⟩
  obtain ⟨g, e2, hc, _⟩ := h4 i (.int .u8 (byt t i : Nat)) (by simp [u8l, byt, List.getD, hi])
  exact ⟨byt_lt hs i, g, 0, e2, by rw [Nat.zero_add]; exact hc⟩
theorem infoU8 : (Try.prog.info? 5).map (fun i => (i.zero, i.size, i.bytes)) = some (some (.int .u8 0), 1, 1) := by kernel_rfl
theorem infoU32 : (Try.prog.info? 39).map (fun i => (i.zero, i.size, i.bytes)) = some (some (.int .u32 0), 1, 4) := by kernel_rfl
theorem u8l_append (a b : List Nat) : u8l (a ++ b) = u8l a ++ u8l b := by simp [u8l]

set_option maxRecDepth 100000 in
theorem ref_copy (w : World) (v : Value) (t : List Nat) (h : TextAt w v t) (hl : t.length ≤ 1000000000) :
    Calls Try.prog 59 #[v] w fun e w' => ∃ v', e = .returned v' ∧ Own w' w.heap.size 5 v' (u8l t) ∧ Below w.heap.size w w' := by
  obtain ⟨ao, cap, rfl, h1, h2, h3⟩ := h.ex
  have hnews := h3.news
  replace h3 := Lib.hid h3
  replace hnews := Lib.hid hnews
  go_enter Try.func59, Try.ntmps59
  go_wp2_with (at_builtin; refine wpList_append_x rfl (.tmp 4) (.tmp 5) 22 rfl 5 Try.underlying22 (.int .u8 0) 1 infoU8 rfl (by decide) w.heap.size w (.slice none 0 0) [] rfl (Own.nil _ _ _) (Below.refl _ _) (Nat.le_refl _) ao t.length cap (u8l t) rfl (by simp [u8l]) h2 hnews.out (u8l_one _) (by simpa using hl) ?_; intro v1 w1 hown hB hg hb)
  go_ret
  exact ⟨_, rfl, by simpa using hown.out, hB.out⟩

/-- The number of the first bytes. -/
def bnum (s : Nat → Nat) : Nat → Nat
  | 0 => 0
  | j + 1 => 256 * bnum s j + s j
theorem bnum_lt {s : Nat → Nat} (hs : ∀ i, s i < 256) : ∀ j, bnum s j < 256 ^ j
  | 0 => by simp [bnum]
  | j + 1 => by
    have h1 := bnum_lt hs j
    have h2 := hs j
    simp only [bnum, Nat.pow_succ]; omega
theorem bnum_le {s : Nat → Nat} (hs : ∀ i, s i < 256) {j : Nat} (hj : j ≤ 7) : bnum s j < 72057594037927936 :=
  Nat.lt_of_lt_of_le (bnum_lt hs j) (by
    have : 256 ^ j ≤ 256 ^ 7 := Nat.pow_le_pow_right (by omega) hj
    exact this)
set_option maxRecDepth 100000 in
theorem ref_number (w : World) (v : Value) (t : List Nat) (h : TextAt w v t) (hl : t.length ≤ 8) :
    Calls Try.prog 61 #[v] w fun e w' => e = .returned (.int .u64 (bnum (byt t) t.length : Nat)) ∧ w = w' := by
  obtain ⟨ao, cap, rfl, h1, h2, h3⟩ := h.ex
  have hs := byt_lt h.small
  generalize t.length = n at *
  replace h3 := Lib.hid h3
  replace hs := Lib.hid hs
  replace h := Lib.hid h
  go_enter Try.func61, Try.ntmps61
  go_wp2_with fail
  go_loop [3, 4] (fun x i => ∃ k : Nat, k ≤ n ∧ x = .int .u64 (bnum (byt t) k : Nat) ∧ i = .int .i64 k) (fun _ i => n - (intOf i).toNat)
  case atStart => exact ⟨0, Nat.zero_le _, rfl, rfl⟩
  case round =>
    obtain ⟨k, hk, rfl, rfl⟩ := hrel
    by_cases hlt : k < n
    · obtain ⟨hb, ob, oo, rfl, hc⟩ := h3.out k hlt
      have hv := bnum_le hs.out (show k ≤ 7 by omega)
      have es := Lib.hid (show bnum (byt t) (k + 1) = 256 * bnum (byt t) k + byt t k from rfl)
      generalize byt t k = c at *
      generalize bnum (byt t) k = x at *
      go_wp2_with fail
      go_round
      case rel => exact ⟨k + 1, by omega, by rw [es.out]; go_num, by go_num⟩
      case measure => simp [intOf]; omega
    · obtain rfl : k = n := by omega
      go_wp2_with fail
      go_ret
      exact ⟨rfl, rfl⟩

theorem beBytes_succ (n x : Nat) : beBytes (n + 1) x = [x / 256 ^ n % 256] ++ beBytes n x := by
  unfold beBytes
  rw [List.range_succ_eq_map]
  simp only [List.map_cons, List.map_map, List.singleton_append]
  congr 1
  refine List.map_congr_left fun i hi => ?_
  have := List.mem_range.1 hi
  simp only [Function.comp]
  congr 3; omega

set_option maxRecDepth 100000 in
theorem ref_bytes (w : World) (x n : Nat) (hn : n ≤ 8) (hx : x < 18446744073709551616) :
    Calls Try.prog 48 #[.int .u64 (x : Int), .int .i64 (n : Int)] w fun e w' => ∃ v', e = .returned v' ∧ Own w' w.heap.size 5 v' (u8l (beBytes n x)) ∧ Below w.heap.size w w' := by
  replace hx := Lib.hid hx
  go_enter Try.func48, Try.ntmps48
  go_wp2_with fail
  go_loopw [0, 5, 6] (fun y o i wr => ∃ k : Nat, k ≤ n ∧ y = .int .u64 ((x / 256 ^ k : Nat) : Int) ∧ i = .int .i64 k ∧ Own wr w.heap.size 5 o (u8l (beBytes k x)) ∧ Below w.heap.size w wr) (fun _ _ i _ => n - (intOf i).toNat)
  case atStart => exact ⟨0, Nat.zero_le _, by simp, rfl, Own.nil _ _ _, Below.refl _ _⟩
  case round =>
    obtain ⟨k, hk, rfl, rfl, hO, hB⟩ := hrel
    by_cases hlt : k < n
    · have ey : x / 256 ^ (k + 1) = x / 256 ^ k / 256 := by rw [Nat.pow_succ, Nat.div_div_eq_div_mul]
      have eb := beBytes_succ k x
      have hy : x / 256 ^ k < 18446744073709551616 := Nat.lt_of_le_of_lt (Nat.div_le_self _ _) hx.out
      obtain ⟨ao, cap, rfl, hc1, hc2, hby⟩ := (hO.text (beBytes_lt _ _)).ex
      have hs := hB.size
      generalize x / 256 ^ k = y at *
      have hown : Own (wr.alloc (.cells #[.int .u8 ((y : Int) % 256)] 5)) w.heap.size 5 (.slice (some ⟨wr.heap.size, 0, none⟩) 1 1) [.int .u8 ((y : Int) % 256)] := Own.made (xs := [_]) (heap_alloc_new _ _) hs (by simp [maxLen])
      have hnews := (hby.below (w' := wr.alloc (.cells #[.int .u8 ((y : Int) % 256)] 5)) ((Below.refl _ _).alloc (Nat.le_refl _) _)).news
      have hB1 := hB.alloc hs (.cells #[.int .u8 ((y : Int) % 256)] 5)
      have elist : [Value.int .u8 ((y : Int) % 256)] ++ u8l (beBytes k x) = u8l (beBytes (k + 1) x) := by rw [eb]; simp [u8l]
      replace hO := Lib.hid hO
      replace hB := Lib.hid hB
      replace hby := Lib.hid hby
      replace hown := Lib.hid hown
      replace hnews := Lib.hid hnews
      replace hB1 := Lib.hid hB1
      replace elist := Lib.hid elist
      replace ey := Lib.hid ey
      replace eb := Lib.hid eb
      go_wp2_with (at_builtin; refine wpList_append_x rfl (.tmp 15) (.tmp 16) 22 rfl 5 Try.underlying22 (.int .u8 0) 1 infoU8 rfl (by decide) w.heap.size w (.slice (some ⟨wr.heap.size, 0, none⟩) 1 1) [.int .u8 ((y : Int) % 256)] rfl hown.out hB1.out (by simp; omega) ao (beBytes k x).length cap (u8l (beBytes k x)) rfl (by simp [u8l]) hc2 hnews.out (u8l_one _) (by simp; omega) ?_; intro v1 w1 ho1 hB2 hg hb1)
      go_roundw
      case rel => exact ⟨k + 1, by omega, by rw [ey.out]; go_num, by go_num, by rw [← elist.out]; exact ho1.out, hB2.out⟩
      case measure => simp [intOf]; omega
    · obtain rfl : k = n := by omega
      replace hO := Lib.hid hO
      replace hB := Lib.hid hB
      go_wp2_with fail
      go_ret
      exact ⟨_, rfl, hO.out, hB.out⟩

end Go.Proofs.Ytjbmdeppoobccaa
