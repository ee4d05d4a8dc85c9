/-
  octet's width and Put of eight bytes. No condition.
-/
import Derived.Test.YtnadgjlmlnhknaaTx
namespace Go.Proofs.Ytnadgjlmlnhknaa
open Go.RowKit

set_option maxRecDepth 100000 in
theorem wid64 (w : World) : Calls Try.prog 75 #[] w fun e w' => e = .returned (.int .i64 8) ∧ w = w' := by
  go_enter Try.func75, Try.ntmps75
  go_wp2_with fail
  refine wp_loop_rounds 9 ?_
  rw [rounds_succ]
  go_wp2_with fail
  rw [rounds_succ]
  go_wp2_with fail
  rw [rounds_succ]
  go_wp2_with fail
  rw [rounds_succ]
  go_wp2_with fail
  rw [rounds_succ]
  go_wp2_with fail
  rw [rounds_succ]
  go_wp2_with fail
  rw [rounds_succ]
  go_wp2_with fail
  rw [rounds_succ]
  go_wp2_with fail
  rw [rounds_succ]
  go_wp2_with fail
  go_ret
  exact ⟨rfl, rfl⟩
/-- The first k bytes of a number, zeros behind. -/
def putTo (n v k : Nat) : List Nat := (List.range n).map fun i => if i < k then v / 256 ^ (n - 1 - i) % 256 else 0
theorem putTo_full (n v : Nat) : putTo n v n = beBytes n v := by
  unfold putTo beBytes
  exact List.map_congr_left fun i hi => by rw [if_pos (List.mem_range.1 hi)]
theorem putTo_set (n v k : Nat) : (putTo n v k).set k (v / 256 ^ (n - 1 - k) % 256) = putTo n v (k + 1) := by
  apply List.ext_getElem
  · simp [putTo]
  · intro j h1 h2
    simp only [List.getElem_set, putTo, List.getElem_map, List.getElem_range]
    by_cases hj : k = j
    · subst hj; simp
    · rw [if_neg hj]
      by_cases h3 : j < k
      · rw [if_pos h3, if_pos (by omega)]
      · rw [if_neg h3, if_neg (by omega)]
theorem putTo_get (n v : Nat) {k : Nat} (hk : k < n) : (putTo n v k)[k]? = some 0 := by simp [putTo, hk]
theorem put_digit (n v k : Nat) : ((v : Int) / 2 ^ (8 * (n - 1 - k)) % 256) = ((v / 256 ^ (n - 1 - k) % 256 : Nat) : Int) := by
  have e : (256 : Nat) ^ (n - 1 - k) = 2 ^ (8 * (n - 1 - k)) := by rw [Nat.pow_mul]
  rw [e]; simp
set_option maxRecDepth 100000 in
theorem put64 (w : World) (v : Nat) :
    Calls Try.prog 68 #[.int .u64 (v : Int)] w fun e w' => e = .returned (.slice (some ⟨w.heap.size, 0, none⟩) 8 8) ∧ RowB w' w.heap.size 5 (beBytes 8 v) ∧ Below w.heap.size w w' := by
  have hmk : ∀ w, (Instr.makeSlice 29 (.int .i64 8) (.int .i64 8)).run Try.prog w = .ok (.slice (some ⟨w.heap.size, 0, none⟩) 8 8) (w.alloc (.cells (u8s (List.replicate 8 0)) 5)) := fun _ => by kernel_rfl
  go_enter Try.func68, Try.ntmps68
  go_wp2_with (go_at_call 75; refine (wid64 _).mono ?_; rintro e w' ⟨rfl, rfl⟩)
  go_loopw [10] (fun i wr => ∃ k : Nat, k ≤ 8 ∧ i = .int .i64 k ∧ RowB wr w.heap.size 5 (putTo 8 v k) ∧ Below w.heap.size w wr) (fun i _ => 8 - (intOf i).toNat)
  case atStart =>
    refine ⟨0, Nat.zero_le _, rfl, ?_, (Below.refl _ _).alloc (Nat.le_refl _) _⟩
    exact heap_alloc_new _ _
  case round =>
    obtain ⟨k, hk, rfl, hrow, hB⟩ := hrel
    by_cases hlt : k < 8
    · have cw := hrow.cell (putTo_get 8 v hlt)
      have fw := hrow.frozen k
      have nx := hrow.set k (v / 256 ^ (8 - 1 - k) % 256)
      rw [putTo_set] at nx
      have nB := hB.setCell (p := ⟨w.heap.size, k, none⟩) (Nat.le_refl _) (.int .u8 ((v / 256 ^ (8 - 1 - k) % 256 : Nat) : Int))
      replace nx := Lib.hid nx
      replace nB := Lib.hid nB
      replace hrow := Lib.hid hrow
      replace hB := Lib.hid hB
      go_wp2_with fail
      go_roundw
      case rel =>
        refine ⟨k + 1, by omega, by go_num, ?_, ?_⟩
        · rw [put_digit 8 v k]; exact nx.out
        · rw [put_digit 8 v k]; exact nB.out
      case measure => simp [intOf]; omega
    · obtain rfl : k = 8 := by omega
      simp only [show ((8 : Nat) : Int) = 8 from rfl]
      replace hrow := Lib.hid hrow
      replace hB := Lib.hid hB
      go_wp2_with fail
      go_ret
      exact ⟨rfl, by rw [← putTo_full]; exact hrow.out, hB.out⟩

end Go.Proofs.Ytnadgjlmlnhknaa
