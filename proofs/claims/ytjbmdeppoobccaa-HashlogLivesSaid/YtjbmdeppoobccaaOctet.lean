/-
  octet: width, Put and Get of the widths that the sums use. Conditions: numbers of their kind, places in their bounds.
-/
import Derived.Test.YtjbmdeppoobccaaShaTurn
import Derived.Test.YtjbmdeppoobccaaPut64
import Derived.Deep.OwnRows
namespace Go.Proofs.Ytjbmdeppoobccaa
open Go.RowKit

set_option maxRecDepth 100000 in
theorem wid32 (w : World) : Calls Try.prog 67 #[] w fun e w' => e = .returned (.int .i64 4) ∧ w = w' := by
  go_enter Try.func67, Try.ntmps67
  go_wp2_with fail
  refine wp_loop_rounds 5 ?_
  rw [rounds_succ]
  go_wp2_with fail
  rw [rounds_succ]
  go_wp2_with fail
  rw [rounds_succ]
  go_wp2_with fail
  rw [rounds_succ]
  go_wp2_with fail
  rw [rounds_succ]
  go_wp2_with fail
  go_ret
  exact ⟨rfl, rfl⟩

/-- The number of the first j of four bytes. -/
def beTo (s : Nat → Nat) (k : Nat) : Nat → Nat
  | 0 => 0
  | j + 1 => beTo s k j * 256 + s (k + j)
theorem beTo_lt {s : Nat → Nat} (hs : ∀ i, s i < 256) (k : Nat) : ∀ j, j ≤ 4 → beTo s k j < 256 ^ j
  | 0, _ => by simp [beTo]
  | j + 1, h => by
    have := beTo_lt hs k j (by omega)
    have h2 := hs (k + j)
    simp only [beTo, Nat.pow_succ]
    omega
theorem beTo_four (s : Nat → Nat) (k : Nat) : beTo s k 4 = be32 s k := by
  simp [beTo, be32]

theorem or_byte (v c : Nat) (hv : v < 16777216) (hc : c < 256) : bits .or .u64 ((v : Int) * 256) (c : Int) = ((v * 256 + c : Nat) : Int) := by
  have e : ((v : Int) * 256) = ((v * 256 : Nat) : Int) := by simp
  rw [e, u64_or_nat _ _ (by omega) (by omega), nat_join 8 _ _ (by omega) (by simpa using hc)]

set_option maxRecDepth 100000 in
/-- Get of four bytes: the number of them. -/
theorem get32 (w : World) (b o len cap k : Nat) (s : Nat → Nat) (hk : k + 4 ≤ len) (hcap : len ≤ cap) (hlen : cap ≤ 4096) (hs : ∀ i, s i < 256) (hc : ∀ i, i < len → w.cell? ⟨b, o + i, none⟩ = some (.int .u8 (s i))) :
    Calls Try.prog 63 #[.slice (some ⟨b, o, none⟩) len cap, .int .i64 k] w fun e w' => e = .returned (.tuple #[.int .u32 (be32 s k), .int .i64 0]) ∧ w = w' := by
  replace hc := Lib.hid hc
  replace hs := Lib.hid hs
  go_enter Try.func63, Try.ntmps63
  go_wp2_with (go_at_call 67; refine (wid32 _).mono ?_; rintro e w' ⟨rfl, rfl⟩)
  go_loop [7, 34] (fun v i => ∃ j : Nat, j ≤ 4 ∧ v = .int .u64 (beTo s k j) ∧ i = .int .i64 j) (fun _ i => 4 - (intOf i).toNat)
  case atStart => exact ⟨0, Nat.zero_le _, rfl, rfl⟩
  case round =>
    obtain ⟨j, hj, rfl, rfl⟩ := hrel
    by_cases hlt : j < 4
    · have c := hc.out (k + j) (by omega)
      rw [← Nat.add_assoc] at c
      have hv := beTo_lt hs.out k j hj
      have hv2 : beTo s k j < 16777216 := Nat.lt_of_lt_of_le hv (by
        have : 256 ^ j ≤ 256 ^ 3 := Nat.pow_le_pow_right (by omega) (by omega)
        exact this)
      have ho := or_byte (beTo s k j) (s (k + j)) hv2 (hs.out _)
      have es := Lib.hid (show beTo s k (j + 1) = beTo s k j * 256 + s (k + j) from rfl)
      have hb := hs.out (k + j)
      generalize s (k + j) = cb at c ho es hb
      generalize beTo s k j = v at ho es hv2
      clear hv
      go_wp2_with fail
      go_round
      case rel => exact ⟨j + 1, by omega, by rw [es.out]; go_num, by go_num⟩
      case measure => simp [intOf]; omega
    · obtain rfl : j = 4 := by omega
      have hv := beTo_lt hs.out k 4 (Nat.le_refl _)
      have hv2 : beTo s k 4 < 4294967296 := hv
      have es := Lib.hid (beTo_four s k)
      clear hv
      generalize beTo s k 4 = v at es hv2
      go_wp2_with fail
      go_ret2
      rw [← es.out]
      exact ⟨by simp, rfl⟩

end Go.Proofs.Ytjbmdeppoobccaa
