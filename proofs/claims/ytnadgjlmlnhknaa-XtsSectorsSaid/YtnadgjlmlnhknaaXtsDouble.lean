/-
  xts: Double and Tweak. Condition: a mask of bytes.
-/
import Derived.Test.YtnadgjlmlnhknaaAesRound
import Derived.Test.YtnadgjlmlnhknaaXtsPlain
namespace Go.Proofs.Ytnadgjlmlnhknaa
open Go.RowKit

theorem info16' (f : Nat → Nat) : (Try.prog.info? 24).map (·.size) = some (u8s (tab f)).size := by rw [size_tab]; rfl
theorem size8' : (Try.prog.info? 5).map (·.size) = some 1 := by kernel_rfl
theorem cry_beq {c : Nat} : ((c : Int) == 1) = decide (c = 1) := by rw [Bool.eq_iff_iff, beq_iff_eq, decide_eq_true_iff]; omega

set_option maxRecDepth 100000 in
theorem xdouble_any (m : Nat → Nat) (hm : Bytes16 m) (w : World) :
    Calls Try.prog 25 #[.agg (u8s (tab m))] w fun e w' => e = .returned (.agg (u8s (tab (dblM m)))) ∧ Below w.heap.size w w' := by
  have hix : ∀ k : Nat, k < 16 → ∀ x, (Instr.index 24 (.agg (u8s (tab m))) (.int .i64 (k : Int))).run Try.prog x = .ok (.int .u8 (m k : Int)) x := fun k hk x =>
    run_index_row x 24 5 16 (u8s (tab m)) .i64 k _ Try.underlying24 (by kernel_rfl) size8' hk (by simp [u8s, tab_get m hk])
  have r0 : RowB (w.alloc (.cells (u8s (tab m)) 24)) w.heap.size 24 (tab m) := heap_alloc_new _ _
  have r0' := r0.alloc (.cells (u8s (List.replicate 16 0)) 24)
  have r1 : RowB ((w.alloc (.cells (u8s (tab m)) 24)).alloc (.cells (u8s (List.replicate 16 0)) 24)) (w.heap.size + 1) 24 (List.replicate 16 0) := by
    rw [show w.heap.size + 1 = (w.alloc (.cells (u8s (tab m)) 24)).heap.size by simp]; exact heap_alloc_new _ _
  have low : Below w.heap.size w ((w.alloc (.cells (u8s (tab m)) 24)).alloc (.cells (u8s (List.replicate 16 0)) 24)) := ((Below.refl _ _).alloc (Nat.le_refl _) _).alloc (by simp) _
  have i16 := info16' m
  have i16d := info16' (dblM m)
  replace hm := Lib.hid hm
  replace hix := Lib.hid hix
  replace r0 := Lib.hid r0
  replace r1 := Lib.hid r1
  replace low := Lib.hid low
  go_enter Try.func25, Try.ntmps25
  go_wp2_with (refine wpList_load_b (by rfl) 24 (.tmp 1) rfl w.heap.size rfl 24 (tab m) r0' _ Try.underlying24 rfl i16 ?_)
  go_loopw [3, 7] (fun c i wr => ∃ k : Nat, k ≤ 16 ∧ c = .int .u8 (cry m k) ∧ i = .int .i64 k ∧ RowB wr w.heap.size 24 (tab (upTo k (dbl0 m) m)) ∧ RowB wr (w.heap.size + 1) 24 (List.replicate 16 0) ∧ Below w.heap.size w wr) (fun _ i _ => 16 - (intOf i).toNat)
  case atStart => exact ⟨0, Nat.zero_le _, rfl, rfl, by rw [upTo_none]; exact r0', r1.out, low.out⟩
  case round =>
    clear r0' r0 r1 low
    obtain ⟨k, hk, rfl, rfl, hR, hO, hB⟩ := hrel
    by_cases hlt : k < 16
    · have ix := hix.out k hlt
      have lm := hm.out k hlt
      have lc := cry_lt hm.out (show k ≤ 16 by omega)
      have es : cry m (k + 1) = m k / 128 := rfl
      have fr := hR.frozen k
      have eo : bits .or .u8 ((m k : Int) * 2 % 256) (cry m k : Int) = (dbl0 m k : Int) := by
        rw [show (m k : Int) * 2 % 256 = ((2 * m k % 256 : Nat) : Int) by omega, u8_or_nat _ _ (Nat.mod_lt _ (by decide)) (by omega)]; rfl
      have c0 := hR.cell (tab_get (upTo k (dbl0 m) m) hlt)
      have nR := hR.set k (dbl0 m k)
      rw [upTo_set] at nR
      have nO := hO.other (heap_setCell_other wr ⟨w.heap.size, k, none⟩ (w.heap.size + 1) (.int .u8 (dbl0 m k : Int)) (show w.heap.size + 1 ≠ w.heap.size by omega))
      have nB := hB.setCell (p := ⟨w.heap.size, k, none⟩) (Nat.le_refl _) (.int .u8 (dbl0 m k : Int))
      generalize upTo k (dbl0 m) m k = old at *
      generalize dbl0 m k = d at *
      generalize cry m k = cc at *
      generalize hx : m k = x at *
      replace hR := Lib.hid hR
      replace hO := Lib.hid hO
      replace hB := Lib.hid hB
      replace nR := Lib.hid nR
      replace nO := Lib.hid nO
      replace nB := Lib.hid nB
      replace es := Lib.hid es
      replace hx := Lib.hid hx
      replace lc := Lib.hid lc
      go_wp2_with fail
      go_roundw
      case rel => exact ⟨k + 1, by omega, by rw [es.out]; go_num, by go_num, nR.out, nO.out, nB.out⟩
      case measure => simp [intOf]; omega
    · obtain rfl : k = 16 := by omega
      rw [upTo_all] at hR
      have lc := cry_lt hm.out (show 16 ≤ 16 by omega)
      have ec : cry m 16 = m 15 / 128 := rfl
      have cb := @cry_beq (cry m 16)
      have fr := hR.frozen 0
      have c0 := hR.cell (tab_get (dbl0 m) (show 0 < 16 by decide))
      by_cases hc : cry m 16 = 1
      · rw [decide_eq_true hc] at cb
        have ex : bits .xor .u8 (dbl0 m 0 : Int) 135 = ((dbl0 m 0 ^^^ 135 : Nat) : Int) := u8_xor_nat (dbl0 m 0) 135 (dbl0_lt hm.out 0 (by decide)) (by decide)
        have nR := hR.set 0 (dbl0 m 0 ^^^ 135)
        have eT : (tab (dbl0 m)).set 0 (dbl0 m 0 ^^^ 135) = tab (dblM m) := by
          rw [tab_set]
          refine tab_ext fun i hi => ?_
          unfold dblM
          by_cases h0 : i = 0
          · rw [if_pos h0, if_pos ⟨h0, ec ▸ hc⟩]
          · rw [if_neg h0, if_neg (fun h => h0 h.1)]
        rw [eT] at nR
        have nO := hO.other (heap_setCell_other wr ⟨w.heap.size, 0, none⟩ (w.heap.size + 1) (.int .u8 ((dbl0 m 0 ^^^ 135 : Nat) : Int)) (show w.heap.size + 1 ≠ w.heap.size by omega))
        have nB := hB.setCell (p := ⟨w.heap.size, 0, none⟩) (Nat.le_refl _) (.int .u8 ((dbl0 m 0 ^^^ 135 : Nat) : Int))
        generalize cry m 16 = cc at *
        generalize dbl0 m 0 ^^^ 135 = d2 at *
        generalize dbl0 m 0 = d at *
        replace hR := Lib.hid hR
        replace hO := Lib.hid hO
        replace hB := Lib.hid hB
        replace nB := Lib.hid nB
        replace eT := Lib.hid eT
        replace hc := Lib.hid hc
        replace ec := Lib.hid ec
        replace lc := Lib.hid lc
        replace hm := Lib.hid hm
        replace hix := Lib.hid hix
        go_wp2_with (first
          | (refine wpList_load_b (by rfl) 24 (.tmp 1) rfl w.heap.size rfl 24 (tab (dblM m)) nR _ Try.underlying24 rfl i16d ?_)
          | (refine wpList_store_s (by rfl) 24 (.tmp 2) (.tmp 26) rfl (w.heap.size + 1) (tab (dblM m)) rfl rfl 24 _ nO i16d (by rw [size_tab]; rfl) ?_
             intro w2 R2 U2))
        refine ret_row rfl rfl (w.heap.size + 1) 24 _ (0, 0) _ rfl R2.out Try.underlying24 rfl i16d ⟨rfl, ?_⟩
        exact nB.out.trans (U2.out.below (fun k hk e => by omega) nB.out.size)
      · rw [decide_eq_false hc] at cb
        have eT : tab (dbl0 m) = tab (dblM m) := by
          refine tab_ext fun i hi => ?_
          unfold dblM
          rw [if_neg (fun h => hc (ec ▸ h.2))]
        rw [eT] at hR
        generalize cry m 16 = cc at *
        replace hB := Lib.hid hB
        replace eT := Lib.hid eT
        replace hc := Lib.hid hc
        replace ec := Lib.hid ec
        replace lc := Lib.hid lc
        replace hm := Lib.hid hm
        replace hix := Lib.hid hix
        go_wp2_with (first
          | (refine wpList_load_b (by rfl) 24 (.tmp 1) rfl w.heap.size rfl 24 (tab (dblM m)) hR _ Try.underlying24 rfl i16d ?_)
          | (refine wpList_store_s (by rfl) 24 (.tmp 2) (.tmp 26) rfl (w.heap.size + 1) (tab (dblM m)) rfl rfl 24 _ hO i16d (by rw [size_tab]; rfl) ?_
             intro w2 R2 U2))
        refine ret_row rfl rfl (w.heap.size + 1) 24 _ (0, 0) _ rfl R2.out Try.underlying24 rfl i16d ⟨rfl, ?_⟩
        exact hB.out.trans (U2.out.below (fun k hk e => by omega) hB.out.size)

set_option maxRecDepth 100000 in
theorem xtweak_any (s : Nat) (w : World) :
    Calls Try.prog 26 #[.int .u64 s] w fun e w' => e = .returned (.agg (u8s (tab (twk s)))) ∧ Below w.heap.size w w' := by
  have i16 := info16' (twk s)
  go_enter Try.func26, Try.ntmps26
  go_wp2_with fail
  go_loopw [5] (fun i wr => ∃ k : Nat, k ≤ 8 ∧ i = .int .i64 k ∧ RowB wr w.heap.size 24 (List.replicate 16 0) ∧ RowB wr (w.heap.size + 1) 24 (tab (upTo k (twk s) (fun _ => 0))) ∧ Below w.heap.size w wr) (fun i _ => 8 - (intOf i).toNat)
  case atStart =>
    have r0 : RowB (w.alloc (.cells (u8s (List.replicate 16 0)) 24)) w.heap.size 24 (List.replicate 16 0) := heap_alloc_new _ _
    have r1 : RowB ((w.alloc (.cells (u8s (List.replicate 16 0)) 24)).alloc (.cells (u8s (List.replicate 16 0)) 24)) (w.heap.size + 1) 24 (tab (upTo 0 (twk s) (fun _ => 0))) := by
      rw [upTo_none, show w.heap.size + 1 = (w.alloc (.cells (u8s (List.replicate 16 0)) 24)).heap.size by simp]; exact heap_alloc_new _ _
    exact ⟨0, Nat.zero_le _, rfl, r0.alloc _, r1, ((Below.refl _ _).alloc (Nat.le_refl _) _).alloc (by simp) _⟩
  case round =>
    obtain ⟨k, hk, rfl, hO, hR, hB⟩ := hrel
    by_cases hlt : k < 8
    · have f1 : IntKind.i64.wrap (8 * (k : Int)) = ((8 * k : Nat) : Int) := by rw [IntWalk.i64_in _ (by omega)]; omega
      have f2 : wrap64 (8 * (k : Int)) = ((8 * k : Nat) : Int) := by rw [IntWalk.wrap64_in _ (by omega)]; omega
      have fr := hR.frozen k
      have ev : (s : Int) / 2 ^ (8 * k) % 256 = (twk s k : Int) := by
        unfold twk
        rw [if_pos hlt, show (256 : Nat) ^ k = 2 ^ (8 * k) by rw [Nat.pow_mul]]; simp
      have c0 := hR.cell (tab_get (upTo k (twk s) (fun _ => 0)) (show k < 16 by omega))
      have nR := hR.set k (twk s k)
      rw [upTo_set] at nR
      have nO := hO.other (heap_setCell_other wr ⟨w.heap.size + 1, k, none⟩ w.heap.size (.int .u8 (twk s k : Int)) (show w.heap.size ≠ w.heap.size + 1 by omega))
      have nB := hB.setCell (p := ⟨w.heap.size + 1, k, none⟩) (by simp) (.int .u8 (twk s k : Int))
      generalize upTo k (twk s) (fun _ => 0) k = old at *
      generalize twk s k = d at *
      replace hR := Lib.hid hR
      replace hO := Lib.hid hO
      replace hB := Lib.hid hB
      replace nR := Lib.hid nR
      replace nO := Lib.hid nO
      replace nB := Lib.hid nB
      go_wp2_with fail
      go_roundw
      case rel => exact ⟨k + 1, by omega, by go_num, nO.out, nR.out, nB.out⟩
      case measure => simp [intOf]; omega
    · obtain rfl : k = 8 := by omega
      have eT : tab (upTo 8 (twk s) (fun _ => 0)) = tab (twk s) := tab_ext fun i hi => by
        unfold upTo twk
        by_cases h : i < 8
        · rw [if_pos h]
        · rw [if_neg h, if_neg h]
      rw [eT] at hR
      replace hB := Lib.hid hB
      replace eT := Lib.hid eT
      go_wp2_with (first
        | (refine wpList_load_b (by rfl) 24 (.tmp 3) rfl (w.heap.size + 1) rfl 24 (tab (twk s)) hR _ Try.underlying24 rfl i16 ?_)
        | (refine wpList_store_s (by rfl) 24 (.tmp 2) (.tmp 16) rfl w.heap.size (tab (twk s)) rfl rfl 24 _ hO i16 (by rw [size_tab]; rfl) ?_
           intro w2 R2 U2))
      refine ret_row rfl rfl w.heap.size 24 _ (0, 0) _ rfl R2.out Try.underlying24 rfl i16 ⟨rfl, ?_⟩
      exact hB.out.trans (U2.out.below (fun k hk e => by omega) hB.out.size)
end Go.Proofs.Ytnadgjlmlnhknaa
