/-
  octet's Put of eight bytes and of four: a new block with the number's bytes. Conditions: the number is of its kind.
-/
import Derived.Test.YtjbmdeppoobccaaOctet
import Derived.Test.YtjbmdeppoobccaaPut64
import Derived.Test.YtjbmdeppoobccaaShaText
namespace Go.Proofs.Ytjbmdeppoobccaa
open Go.RowKit

set_option maxRecDepth 100000 in
theorem put32 (w : World) (v : Nat) (hv : v < 4294967296) :
    Calls Try.prog 52 #[.int .u32 (v : Int)] w fun e w' => e = .returned (.slice (some ⟨w.heap.size, 0, none⟩) 4 4) ∧ RowB w' w.heap.size 5 (beBytes 4 v) ∧ Below w.heap.size w w' := by
  have hmk : ∀ w, (Instr.makeSlice 22 (.int .i64 4) (.int .i64 4)).run Try.prog w = .ok (.slice (some ⟨w.heap.size, 0, none⟩) 4 4) (w.alloc (.cells (u8s (List.replicate 4 0)) 5)) := fun _ => by kernel_rfl
  go_enter Try.func52, Try.ntmps52
  go_wp2_with (go_at_call 67; refine (wid32 _).mono ?_; rintro e w' ⟨rfl, rfl⟩)
  go_loopw [10] (fun i wr => ∃ k : Nat, k ≤ 4 ∧ i = .int .i64 k ∧ RowB wr w.heap.size 5 (putTo 4 v k) ∧ Below w.heap.size w wr) (fun i _ => 4 - (intOf i).toNat)
  case atStart =>
    refine ⟨0, Nat.zero_le _, rfl, ?_, (Below.refl _ _).alloc (Nat.le_refl _) _⟩
    exact heap_alloc_new _ _
  case round =>
    obtain ⟨k, hk, rfl, hrow, hB⟩ := hrel
    by_cases hlt : k < 4
    · have cw := hrow.cell (putTo_get 4 v hlt)
      have fw := hrow.frozen k
      have nx := hrow.set k (v / 256 ^ (4 - 1 - k) % 256)
      rw [putTo_set] at nx
      have nB := hB.setCell (p := ⟨w.heap.size, k, none⟩) (Nat.le_refl _) (.int .u8 ((v / 256 ^ (4 - 1 - k) % 256 : Nat) : Int))
      replace nx := Lib.hid nx
      replace nB := Lib.hid nB
      replace hrow := Lib.hid hrow
      replace hB := Lib.hid hB
      go_wp2_with fail
      go_roundw
      case rel =>
        refine ⟨k + 1, by omega, by go_num, ?_, ?_⟩
        · rw [put_digit 4 v k]; exact nx.out
        · rw [put_digit 4 v k]; exact nB.out
      case measure => simp [intOf]; omega
    · obtain rfl : k = 4 := by omega
      simp only [show ((4 : Nat) : Int) = 4 from rfl]
      replace hrow := Lib.hid hrow
      replace hB := Lib.hid hB
      go_wp2_with fail
      go_ret
      exact ⟨rfl, by rw [← putTo_full]; exact hrow.out, hB.out⟩
end Go.Proofs.Ytjbmdeppoobccaa
