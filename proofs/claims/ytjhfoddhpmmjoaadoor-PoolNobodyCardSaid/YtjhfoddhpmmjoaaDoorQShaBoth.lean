/-
  sha's Both and Sum of texts; Write and Sum of a hash that is none. Conditions: the texts are not too long.
-/
import Derived.Test.YtjhfoddhpmmjoaaDoorQShaSum
namespace Go.Proofs.YtjhfoddhpmmjoaaDoor
set_option maxRecDepth 100000
open Go.RowKit

theorem cell_alloc_at {w : World} {b : Nat} {v : Value} {t : TypeId} (h : b = w.heap.size) : (w.alloc (.cells #[v] t)).cell? ⟨b, 0, none⟩ = some v := by
  rw [h]; exact cell_alloc_new' _ _ _
set_option maxRecDepth 100000 in
theorem both_any (w : World) (ao : Option Addr) (cap : Nat) (ls : List (List Nat)) (h : TextsAt w ao ls) (hlen : ls.flatten.length < 1000000000) (hls : ls.length < 1000000000) :
    Calls Tryd.prog 84 #[.slice ao ls.length cap] w fun e w' => e = .returned (.agg (u8s (sumOf ls.flatten))) ∧ Below w.heap.size w w' := by
  obtain ⟨n, hn⟩ : ∃ n, n = ls.length := ⟨_, rfl⟩
  rw [← hn]
  rw [← hn] at hls
  replace h := Lib.hid h
  replace hn := Lib.hid hn
  go_enter Tryd.func84, Tryd.ntmps84
  go_wp2_with fail
  refine (snew_any _).mono ?_
  rintro e w1 ⟨b, hb, rfl, hP, hB⟩
  have hb' : w.heap.size + 1 ≤ b := by simpa using hb
  have start : HashP w1 b (joinTo ls 0) (joinTo ls 0).length ∧ RowB w1 w.heap.size 74 (List.replicate 32 0) ∧ Below w.heap.size w w1 :=
    ⟨hP, RowB.other (show RowB (w.alloc (.cells (u8s (List.replicate 32 0)) 74)) w.heap.size 74 (List.replicate 32 0) from heap_alloc_new _ _) (hB.block _ (by simp)), ((Below.refl _ _).alloc (Nat.le_refl _) _).trans (hB.mono (by simp))⟩
  replace start := Lib.hid start
  replace hb' := Lib.hid hb'
  clear hP hB hb
  go_wp2_with fail
  go_loopw [11] (fun i wr => ∃ k : Nat, k ≤ n ∧ i = .int .i64 k ∧ HashP wr b (joinTo ls k) (joinTo ls k).length ∧ RowB wr w.heap.size 74 (List.replicate 32 0) ∧ Below w.heap.size w wr) (fun i _ => n - (intOf i).toNat)
  case atStart => exact ⟨0, Nat.zero_le _, rfl, start.out⟩
  case round =>
    obtain ⟨k, hk, rfl, hP, hR, hB⟩ := hrel
    by_cases hlt : k < n
    · have hk' : k < ls.length := by rw [← hn.out]; exact hlt
      obtain ⟨ob, oo, rfl, ai, ci, hc, hci, hby, _⟩ := h.out k hk'
      have c1 := (hB.cell (block_lt_of_cell hc)).trans hc
      have hle := joinTo_le ls (k + 1)
      have hsucc := joinTo_succ ls hk'
      have wr1 := Lib.hid (write_any wr b (joinTo ls k) _ ai _ ci _ hP hci (by rw [hsucc, List.length_append] at hle; omega) (hby.below hB) (hby.out (by have := hb'.out; omega)))
      clear hc
      generalize ls.getD k [] = d at *
      replace hP := Lib.hid hP
      replace hR := Lib.hid hR
      replace hB := Lib.hid hB
      replace hby := Lib.hid hby
      replace hsucc := Lib.hid hsucc
      go_wp2_with fail
      refine wr1.out.mono ?_
      rintro e w2 ⟨rfl, P2, U2⟩
      rw [bytesOf_byt, ← hsucc.out] at P2
      have S2 : HashP w2 b (joinTo ls (k + 1)) (joinTo ls (k + 1)).length ∧ RowB w2 w.heap.size 74 (List.replicate 32 0) ∧ Below w.heap.size w w2 := by
        refine ⟨?_, hR.out.other (U2.block _ hR.out.lt (by have := hb'.out; omega)), hB.out.trans (U2.below (fun i hi e => by have := hb'.out; omega) hB.out.size)⟩
        have e : (joinTo ls k).length + d.length = (joinTo ls (k + 1)).length := by rw [hsucc.out, List.length_append]
        rw [← e]; exact P2
      replace S2 := Lib.hid S2
      clear P2 U2 wr1
      go_wp2_with fail
      go_roundw
      case rel => exact ⟨k + 1, by omega, by go_num, S2.out⟩
      case measure => simp [intOf]; omega
    · obtain rfl : k = n := by omega
      have ej : joinTo ls k = ls.flatten := by rw [hn.out]; exact joinTo_full ls
      rw [ej] at hP
      have sm := Lib.hid (sum_any wr b _ hP hlen)
      generalize hT : ls.flatten = T at *
      have l32 : (u8s (sumOf T)).size = 32 := size_sumOf T
      have hi32 : (Tryd.prog.info? 74).map (·.size) = some (u8s (sumOf T)).size := by
        have e : (Tryd.prog.info? 74).map (·.size) = some 32 := by kernel_rfl
        rw [l32]; exact e
      have one32 : (u8s (sumOf T)).all (·.oneCell') = true := by simp [u8s, Value.oneCell']
      replace hP := Lib.hid hP
      replace hR := Lib.hid hR
      replace hB := Lib.hid hB
      replace ej := Lib.hid ej
      replace hT := Lib.hid hT
      go_wp2_with fail
      refine sm.out.mono ?_
      rintro e w2 ⟨rfl, B2⟩
      have R2 : RowB w2 w.heap.size 74 (List.replicate 32 0) := hR.out.other (B2.block _ hR.out.lt)
      have C2 : Below w.heap.size w w2 := hB.out.trans (B2.mono hB.out.size)
      have hlt2 := R2.lt
      replace R2 := Lib.hid R2
      replace C2 := Lib.hid C2
      clear B2 sm
      go_wp2_with (first
        | (refine wpList_store_row rfl 74 (.tmp 6) (.tmp 22) rfl w2.heap.size (u8s (sumOf T)) rfl rfl 74 (u8s (List.replicate 32 0)) (heap_alloc_new _ _) hi32 (by rw [l32]; rfl) one32 ?_
           refine name_world ?_; intro w4 hw4
           have L4 : RowB w4 w2.heap.size 74 (sumOf T) := by rw [hw4.out]; exact setRow_heap _ _ _ _ _ _ (heap_alloc_new _ _)
           have R4 : RowB w4 w.heap.size 74 (List.replicate 32 0) := by
             rw [hw4.out]; unfold RowB; rw [setRow_other _ _ _ _ (by omega)]; exact alloc_row R2.out
           have C4 : Below w.heap.size w w4 := by rw [hw4.out]; exact below_setRow (C2.out.alloc (by omega) _) (by omega) _
           clear hw4
           replace L4 := Lib.hid L4
           replace R4 := Lib.hid R4
           replace C4 := Lib.hid C4)
        | (refine wpList_load_row rfl 74 (.tmp 6) rfl w2.heap.size rfl 74 (u8s (sumOf T)) (0, 0) _ L4.out Tryd.underlying74 rfl hi32 ?_)
        | (refine wpList_store_row rfl 74 (.tmp 2) (.tmp 24) rfl w.heap.size (u8s (sumOf T)) rfl rfl 74 (u8s (List.replicate 32 0)) R4.out hi32 (by rw [l32]; rfl) one32 ?_))
      refine ret_row rfl rfl w.heap.size 74 (u8s (sumOf T)) (0, 0) _ rfl (setRow_heap _ _ _ _ _ _ R4.out) Tryd.underlying74 rfl hi32 ⟨by rw [hT.out], below_setRow C4.out (Nat.le_refl _) _⟩

set_option maxRecDepth 100000 in
theorem sumf_any (w : World) (ao : Option Addr) (cap : Nat) (t : List Nat) (hc : t.length ≤ cap) (h : BytesAt w ao t.length (byt t)) (hno : ao = none → cap = 0) (hlen : t.length < 1000000000) :
    Calls Tryd.prog 80 #[.slice ao t.length cap] w fun e w' => e = .returned (.agg (u8s (sumOf t))) ∧ Below w.heap.size w w' := by
  have l32 : (u8s (sumOf t)).size = 32 := size_sumOf t
  have hi32 : (Tryd.prog.info? 74).map (·.size) = some (u8s (sumOf t)).size := by
    have e : (Tryd.prog.info? 74).map (·.size) = some 32 := by kernel_rfl
    rw [l32]; exact e
  have one32 : (u8s (sumOf t)).all (·.oneCell') = true := by simp [u8s, Value.oneCell']
  have bo : ∀ wx : World, wx.cell? ⟨w.heap.size + 1, 0, none⟩ = some (.slice ao t.length cap) → Below w.heap.size w wx →
      Calls Tryd.prog 84 #[.slice (some ⟨w.heap.size + 1, 0, none⟩) 1 1] wx fun e w' => e = .returned (.agg (u8s (sumOf t))) ∧ Below wx.heap.size wx w' := fun wx hx hB => by
    have h1 := both_any wx (some ⟨w.heap.size + 1, 0, none⟩) 1 [t] (fun i hi => by
      obtain rfl : i = 0 := by simpa using hi
      exact ⟨w.heap.size + 1, 0, rfl, ao, cap, hx, hc, h.below hB, hno⟩) (by simpa using hlen) (by simp)
    simpa using h1
  generalize t.length = n at *
  replace bo := Lib.hid bo
  replace h := Lib.hid h
  go_enter Tryd.func80, Tryd.ntmps80
  go_wp2_with fail
  refine (bo.out _ (cell_alloc_at (by simp)) (((Below.refl _ _).alloc (Nat.le_refl _) _).alloc (by simp) _)).mono ?_
  rintro e w2 ⟨rfl, B2⟩
  have R2 : RowB w2 w.heap.size 74 (List.replicate 32 0) := by
    refine RowB.other (show RowB ((w.alloc (.cells (u8s (List.replicate 32 0)) 74)).alloc (.cells #[.slice ao n cap] 85)) w.heap.size 74 (List.replicate 32 0) from alloc_row (heap_alloc_new _ _)) (B2.block _ (by simp; omega))
  have C2 : Below w.heap.size w w2 := (((Below.refl _ _).alloc (Nat.le_refl _) _).alloc (by simp) _).trans (B2.mono (by simp; omega))
  replace R2 := Lib.hid R2
  replace C2 := Lib.hid C2
  clear B2 bo
  go_wp2_with (refine wpList_store_row rfl 74 (.tmp 2) (.tmp 5) rfl w.heap.size (u8s (sumOf t)) rfl rfl 74 (u8s (List.replicate 32 0)) R2.out hi32 (by rw [l32]; rfl) one32 ?_)
  refine ret_row rfl rfl w.heap.size 74 (u8s (sumOf t)) (0, 0) _ rfl (setRow_heap _ _ _ _ _ _ R2.out) Tryd.underlying74 rfl hi32 ⟨rfl, below_setRow C2.out (Nat.le_refl _) _⟩

/-- A hash that was never made. -/
def HashNot (w : World) (v : Value) : Prop := v = .pointer none ∨ ∃ b, v = .pointer (some ⟨b, 0, none⟩) ∧ w.cell? ⟨b, 0, none⟩ = some (.bool false)
set_option maxRecDepth 100000 in
theorem write_not (w : World) (v s : Value) (h : HashNot w v) : Calls Tryd.prog 89 #[v, s] w fun e w' => e = .returned (.int .i64 6) ∧ w = w' := by
  rcases h with rfl | ⟨b, rfl, c0⟩
  · go_enter Tryd.func89, Tryd.ntmps89
    go_wp2
    go_ret
    exact ⟨rfl, rfl⟩
  · go_enter Tryd.func89, Tryd.ntmps89
    go_wp2
    go_ret
    exact ⟨rfl, rfl⟩
set_option maxRecDepth 100000 in
theorem sum_not (w : World) (v : Value) (h : HashNot w v) : Calls Tryd.prog 90 #[v] w fun e w' => e = .returned (.tuple #[.agg (u8s (List.replicate 32 0)), .int .i64 6]) ∧ Below w.heap.size w w' := by
  have hi32 : (Tryd.prog.info? 74).map (·.size) = some (u8s (List.replicate 32 0)).size := by kernel_rfl
  rcases h with rfl | ⟨b, rfl, c0⟩
  · go_enter Tryd.func90, Tryd.ntmps90
    go_wp2_with (first
      | (refine wpList_load_row rfl 74 (.tmp 4) rfl (w.heap.size + 1) rfl 74 (u8s (List.replicate 32 0)) (0, 0) _ (alloc_at (by simp)) Tryd.underlying74 rfl hi32 ?_)
      | (refine wpList_store_row rfl 74 (.tmp 2) (.tmp 18) rfl w.heap.size (u8s (List.replicate 32 0)) rfl rfl 74 (u8s (List.replicate 32 0)) (alloc_row (heap_alloc_new _ _)) hi32 rfl (by kernel_rfl) ?_; refine name_world ?_; intro w1 hw1))
    refine ret_row2 rfl rfl w.heap.size 74 (u8s (List.replicate 32 0)) (0, 0) _ rfl (by rw [hw1.out]; exact setRow_heap _ _ _ _ _ _ (alloc_row (heap_alloc_new _ _))) Tryd.underlying74 rfl hi32 ⟨rfl, ?_⟩
    rw [hw1.out]
    exact below_setRow (((Below.refl _ _).alloc (Nat.le_refl _) _).alloc (by simp) _) (Nat.le_refl _) _
  · have hblt : b < w.heap.size := block_lt_of_cell c0
    go_enter Tryd.func90, Tryd.ntmps90
    go_wp2_with (first
      | (refine wpList_load_row rfl 74 (.tmp 4) rfl (w.heap.size + 1) rfl 74 (u8s (List.replicate 32 0)) (0, 0) _ (alloc_at (by simp)) Tryd.underlying74 rfl hi32 ?_)
      | (refine wpList_store_row rfl 74 (.tmp 2) (.tmp 18) rfl w.heap.size (u8s (List.replicate 32 0)) rfl rfl 74 (u8s (List.replicate 32 0)) (alloc_row (heap_alloc_new _ _)) hi32 rfl (by kernel_rfl) ?_; refine name_world ?_; intro w1 hw1))
    refine ret_row2 rfl rfl w.heap.size 74 (u8s (List.replicate 32 0)) (0, 0) _ rfl (by rw [hw1.out]; exact setRow_heap _ _ _ _ _ _ (alloc_row (heap_alloc_new _ _))) Tryd.underlying74 rfl hi32 ⟨rfl, ?_⟩
    rw [hw1.out]
    exact below_setRow (((Below.refl _ _).alloc (Nat.le_refl _) _).alloc (by simp) _) (Nat.le_refl _) _

end Go.Proofs.YtjhfoddhpmmjoaaDoor
