/-
  The reference of layer 1: Copy, Number, Bytes. Conditions: texts not too long; numbers of their kind.
-/
import Derived.Test.YtjbmdeppoobccaaOwn
import Derived.Test.YtjbmdeppoobccaaRefCopy
import Derived.Test.YtjbmdeppoobccaaOctet
import Derived.Test.YtjbmdeppoobccaaOctetPut
import Derived.Test.YtjbmdeppoobccaaShaWrite
namespace Go.Proofs.Ytjbmdeppoobccaa
open Go.RowKit

theorem infoU32 : (Try.prog.info? 39).map (fun i => (i.zero, i.size, i.bytes)) = some (some (.int .u32 0), 1, 4) := by kernel_rfl
/-- The number of the first bytes. -/
def bnum (s : Nat → Nat) : Nat → Nat
  | 0 => 0
  | j + 1 => 256 * bnum s j + s j
theorem bnum_lt {s : Nat → Nat} (hs : ∀ i, s i < 256) : ∀ j, bnum s j < 256 ^ j
  | 0 => by simp [bnum]
  | j + 1 => by
    have h1 := bnum_lt hs j
    have h2 := hs j
    simp only [bnum, Nat.pow_succ]; omega
theorem bnum_le {s : Nat → Nat} (hs : ∀ i, s i < 256) {j : Nat} (hj : j ≤ 7) : bnum s j < 72057594037927936 :=
  Nat.lt_of_lt_of_le (bnum_lt hs j) (by
    have : 256 ^ j ≤ 256 ^ 7 := Nat.pow_le_pow_right (by omega) hj
    exact this)
set_option maxRecDepth 100000 in
theorem ref_number (w : World) (v : Value) (t : List Nat) (h : TextAt w v t) (hl : t.length ≤ 8) :
    Calls Try.prog 61 #[v] w fun e w' => e = .returned (.int .u64 (bnum (byt t) t.length : Nat)) ∧ w = w' := by
  obtain ⟨ao, cap, rfl, h1, h2, h3⟩ := h.ex
  have hs := byt_lt h.small
  generalize t.length = n at *
  replace h3 := Lib.hid h3
  replace hs := Lib.hid hs
  replace h := Lib.hid h
  go_enter Try.func61, Try.ntmps61
  go_wp2_with fail
  go_loop [3, 4] (fun x i => ∃ k : Nat, k ≤ n ∧ x = .int .u64 (bnum (byt t) k : Nat) ∧ i = .int .i64 k) (fun _ i => n - (intOf i).toNat)
  case atStart => exact ⟨0, Nat.zero_le _, rfl, rfl⟩
  case round =>
    obtain ⟨k, hk, rfl, rfl⟩ := hrel
    by_cases hlt : k < n
    · obtain ⟨hb, ob, oo, rfl, hc⟩ := h3.out k hlt
      have hv := bnum_le hs.out (show k ≤ 7 by omega)
      have es := Lib.hid (show bnum (byt t) (k + 1) = 256 * bnum (byt t) k + byt t k from rfl)
      generalize byt t k = c at *
      generalize bnum (byt t) k = x at *
      go_wp2_with fail
      go_round
      case rel => exact ⟨k + 1, by omega, by rw [es.out]; go_num, by go_num⟩
      case measure => simp [intOf]; omega
    · obtain rfl : k = n := by omega
      go_wp2_with fail
      go_ret
      exact ⟨rfl, rfl⟩

end Go.Proofs.Ytjbmdeppoobccaa
