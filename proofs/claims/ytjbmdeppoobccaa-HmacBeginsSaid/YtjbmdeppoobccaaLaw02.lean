/-
  Layer 2's law: alive, Great. Conditions: the texts of Great are not too many.
-/
import Derived.Test.YtjbmdeppoobccaaRefSumS
import Derived.Test.YtjbmdeppoobccaaQuiet
import Derived.Test.YtjbmdeppoobccaaStr
import Derived.Lib.SlBytesConst
namespace Go.Proofs.Ytjbmdeppoobccaa
open Go.RowKit

def sABC : List Nat := sumOf [97, 98, 99]
def sNil : List Nat := sumOf []
theorem abc_head : sABC.take 4 = [186, 120, 22, 191] := by decide +kernel
theorem nil_head : sNil.take 2 = [227, 176] := by decide +kernel
theorem take_get {l m : List Nat} {n i : Nat} (h : l.take n = m) (hi : i < n) : l[i]? = m[i]? := by
  rw [← h, List.getElem?_take, if_pos hi]

set_option maxRecDepth 100000 in
theorem great_any (w : World) (ao : Option Addr) (cap : Nat) (ls : List (List Nat)) (h : TextsAt w ao ls) (hls : ls.length < 9223372036854775808) :
    Calls Try.prog 16 #[.slice ao ls.length cap] w fun e w' => e = .returned (.bool (decide (12 < ls.length) || ls.any fun t => decide (400 < t.length))) ∧ w = w' := by
  obtain ⟨n, hn⟩ : ∃ n, n = ls.length := ⟨_, rfl⟩
  rw [← hn]
  rw [← hn] at hls
  obtain ⟨B, hB⟩ : ∃ B, B = (decide (12 < n) || ls.any fun t => decide (400 < t.length)) := ⟨_, rfl⟩
  rw [← hB]
  replace hB := Lib.hid hB
  replace h := Lib.hid h
  replace hn := Lib.hid hn
  go_enter Try.func16, Try.ntmps16
  go_wp2_with fail
  go_loop [3] (fun i => ∃ k : Nat, k ≤ n ∧ i = .int .i64 k ∧ (∀ j, j < k → (ls.getD j []).length ≤ 400) ∧ (0 < k → n ≤ 12)) (fun i => n - (intOf i).toNat)
  case atStart => exact ⟨0, Nat.zero_le _, rfl, fun j hj => by omega, fun h0 => by omega⟩
  case round =>
    obtain ⟨k, hk, rfl, hall, h12⟩ := hrel
    by_cases hlt : k < n
    · have hk' : k < ls.length := by rw [← hn.out]; exact hlt
      obtain ⟨ob, oo, rfl, ai, ci, hc, _, _, _⟩ := h.out k hk'
      have hmem : ls.getD k [] ∈ ls := by simp [List.getD, hk']
      by_cases hg : 12 < n ∨ 400 < (ls.getD k []).length
      · have eT : (decide (12 < n) || ls.any fun t => decide (400 < t.length)) = true := by
          rcases hg with h1 | h1
          · simp [h1]
          · simp only [Bool.or_eq_true, List.any_eq_true, decide_eq_true_eq]
            exact .inr ⟨_, hmem, h1⟩
        clear hmem
        generalize (ls.getD k []).length = m at *
        replace hall := Lib.hid hall
        replace eT := Lib.hid eT
        replace h12 := Lib.hid h12
        by_cases h1 : 12 < n
        · have d1 : ((12 : Int) < (n : Int)) := by omega
          go_wp2_with fail
          go_ret
          exact ⟨by rw [hB.out, eT.out]; rfl, rfl⟩
        · have d2 : ((400 : Int) < (m : Int)) := by omega
          have d1 : ¬ ((12 : Int) < (n : Int)) := by omega
          go_wp2_with fail
          go_ret
          exact ⟨by rw [hB.out, eT.out]; rfl, rfl⟩
      · have h1 : ¬ 12 < n := fun e => hg (.inl e)
        have h2 : ¬ 400 < (ls.getD k []).length := fun e => hg (.inr e)
        have hall' : ∀ j, j < k + 1 → (ls.getD j []).length ≤ 400 := fun j hj => by
          by_cases e : j = k
          · subst e; omega
          · exact hall j (by omega)
        replace hall' := Lib.hid hall'
        clear hg hmem hall
        generalize (ls.getD k []).length = m at *
        have d2 : ¬ ((400 : Int) < (m : Int)) := by omega
        have d1 : ¬ ((12 : Int) < (n : Int)) := by omega
        replace h12 := Lib.hid h12
        go_wp2_with fail
        go_round
        case rel => exact ⟨k + 1, by omega, by go_num, hall'.out, fun _ => by omega⟩
        case measure => simp [intOf]; omega
    · obtain rfl : k = n := by omega
      have eF : (decide (12 < k) || ls.any fun t => decide (400 < t.length)) = false := by
        simp only [Bool.or_eq_false_iff, decide_eq_false_iff_not, List.any_eq_false, decide_eq_true_eq]
        refine ⟨fun e => ?_, fun t ht => ?_⟩
        · have := h12 (by omega); omega
        · obtain ⟨j, hj, rfl⟩ := List.mem_iff_getElem.1 ht
          have := hall j (by rw [hn.out]; exact hj)
          simp [List.getD, hj] at this
          omega
      replace eF := Lib.hid eF
      replace hall := Lib.hid hall
      replace h12 := Lib.hid h12
      go_wp2_with fail
      go_ret
      exact ⟨by rw [hB.out, eF.out]; rfl, rfl⟩

theorem size_s (t : List Nat) : (Try.prog.info? 27).map (·.size) = some (u8s (sumOf t)).size := by
  have e : (Try.prog.info? 27).map (·.size) = some 32 := by kernel_rfl
  rw [size_sumOf]; exact e
theorem one_s (t : List Nat) : (u8s (sumOf t)).all (·.oneCell') = true := by simp [u8s, Value.oneCell']

/-- The bytes of a literal, in a block just made and marked. -/
theorem lit_bytes {w : World} {fr : Nat × Nat} {ty : TypeId} {n : Nat} (t : List Nat) (hs : ∀ x ∈ t, x < 256) (hn : t.length = n) : BytesAt (w.alloc (.cells (u8s t) ty fr)) (some ⟨w.heap.size, 0, none⟩) n (byt t) := fun i hi => by
  refine ⟨byt_lt hs i, w.heap.size, 0, rfl, ?_⟩
  rw [Nat.zero_add, cell_of_row _ _ _ _ _ _ (heap_alloc_new _ _)]
  simp [u8s, byt, List.getD, show i < t.length by omega]

set_option maxRecDepth 100000 in
set_option maxHeartbeats 1000000 in
theorem alive02 (w : World) : Calls Try.prog 17 #[] w fun e w' => e = .returned (.bool true) ∧ Below w.heap.size w w' := by
  have hcv : ∀ (x : World) (C : Array Value) (n c : Nat), (convert 22 22 (.slice (some ⟨x.heap.size, 0, none⟩) n c)).run Try.prog (x.alloc (.cells C 5)) = .ok (.slice (some ⟨x.heap.size, 0, none⟩) n c) (x.alloc (.cells C 5 (C.size, C.size + 1))) :=
    fun x C n c => Lib.run_convert_bytes_const x 22 5 C n c Try.underlying22 Try.underlying5
  go_enter Try.func17, Try.ntmps17
  go_wp2_with fail
  refine Calls.mono (show Calls Try.prog 18 #[.slice (some ⟨w.heap.size, 0, none⟩) 3 3] (w.alloc (.cells #[.int .u8 97, .int .u8 98, .int .u8 99] 5 (3, 4))) _ from
    sumf_any (w.alloc (.cells (u8s [97, 98, 99]) 5 (3, 4))) (some ⟨w.heap.size, 0, none⟩) 3 [97, 98, 99] (by decide) (lit_bytes _ (by decide) rfl) (fun e => by simp at e) (by decide)) ?_
  rintro e w1 ⟨rfl, B1⟩
  have h1 : Below w.heap.size w w1 := ((Below.refl _ _).alloc (Nat.le_refl _) _).trans (B1.mono (by simp))
  clear B1
  replace h1 := Lib.hid h1
  rw [show sumOf [97, 98, 99] = sABC from rfl]
  go_wp2_with fail
  refine Calls.mono (show Calls Try.prog 18 #[.slice none 0 0] w1 _ from sumf_any w1 none 0 [] (by decide) (fun i hi => by simp at hi) (fun _ => rfl) (by decide)) ?_
  rintro e w2 ⟨rfl, B2⟩
  have h2 : Below w.heap.size w w2 := h1.out.trans (B2.mono h1.out.size)
  clear B2 h1
  replace h2 := Lib.hid h2
  rw [show sumOf [] = sNil from rfl]
  have i1 : (Try.prog.info? 27).map (·.size) = some (u8s sABC).size := size_s _
  have i2 : (Try.prog.info? 27).map (·.size) = some (u8s sNil).size := size_s _
  have o1 : (u8s sABC).all (·.oneCell') = true := one_s _
  have o2 : (u8s sNil).all (·.oneCell') = true := one_s _
  have l1 : (u8s sABC).size = 32 := size_sumOf _
  have l2 : (u8s sNil).size = 32 := size_sumOf _
  go_wp2_with (first
    | (refine wpList_store_row rfl 27 (.tmp 1) (.tmp 8) rfl w2.heap.size (u8s sABC) rfl rfl 27 (u8s (List.replicate 32 0)) (alloc_row (heap_alloc_new _ _)) i1 (by rw [l1]; rfl) o1 ?_
       refine name_world ?_; intro w3 hw3)
    | (refine wpList_store_row rfl 27 (.tmp 2) (.tmp 9) rfl (w2.heap.size + 1) (u8s sNil) rfl rfl 27 (u8s (List.replicate 32 0)) (by rw [hw3.out, setRow_other _ _ _ _ (by omega)]; exact alloc_at (by simp)) i2 (by rw [l2]; rfl) o2 ?_
       refine name_world ?_; intro w4 hw4
       have A4 : RowB w4 w2.heap.size 27 sABC := by
         rw [hw4.out]; unfold RowB; rw [setRow_other _ _ _ _ (by omega), hw3.out]; exact setRow_heap _ _ _ _ _ _ (alloc_row (heap_alloc_new _ _))
       have N4 : RowB w4 (w2.heap.size + 1) 27 sNil := by
         rw [hw4.out]; refine setRow_heap _ _ (u8s (List.replicate 32 0)) _ _ _ ?_
         rw [hw3.out, setRow_other _ _ _ _ (by omega)]; exact alloc_at (by simp)
       have h4 : Below w.heap.size w w4 := by
         have hs := h2.out.size
         rw [hw4.out, hw3.out]
         exact below_setRow (below_setRow ((h2.out.alloc hs _).alloc (by simp; omega) _) (by omega) _) (by omega) _
       clear hw4 hw3
       replace A4 := Lib.hid A4
       replace N4 := Lib.hid N4
       replace h4 := Lib.hid h4))
  refine (snew_any w4).mono ?_
  rintro e w5 ⟨b, hb, rfl, P5, B5⟩
  have hs4 := h4.out.size
  have A5 : RowB w5 w2.heap.size 27 sABC := A4.out.other (B5.block _ A4.out.lt)
  have N5 : RowB w5 (w2.heap.size + 1) 27 sNil := N4.out.other (B5.block _ N4.out.lt)
  have h5 : Below w.heap.size w w5 := h4.out.trans (B5.mono hs4)
  have a0 := A4.out.lt
  have a1 := N4.out.lt
  have hs2 := h2.out.size
  have hs5 := h5.size
  have hb5 := P5.lt
  clear A4 N4 h4 B5 h2
  have W6 := Lib.hid (write_any (w5.alloc (.cells (u8s [97, 98]) 5 (2, 3))) b [] 0 (some ⟨w5.heap.size, 0, none⟩) 2 2 (byt [97, 98]) (P5.stay (S := fun _ => False) ((Upd.refl _ _).alloc _) id) (Nat.le_refl _) (by decide) (lit_bytes [97, 98] (by decide) rfl) (fun _ ob oo e => by cases e; omega))
  replace P5 := Lib.hid P5
  replace A5 := Lib.hid A5
  replace N5 := Lib.hid N5
  replace h5 := Lib.hid h5
  go_wp2_with fail
  refine Calls.mono (show Calls Try.prog 23 #[.pointer (some ⟨b, 0, none⟩), .slice (some ⟨w5.heap.size, 0, none⟩) 2 2] (w5.alloc (.cells #[.int .u8 97, .int .u8 98] 5 (2, 3))) _ from W6.out) ?_
  rintro e w6 ⟨rfl, P6, U6⟩
  have P6' : HashP w6 b [97, 98] 2 := P6
  have ne1 : w2.heap.size ≠ b := by omega
  have ne2 : w2.heap.size + 1 ≠ b := by omega
  have A6 : RowB w6 w2.heap.size 27 sABC := RowB.other (show RowB (w5.alloc (.cells (u8s [97, 98]) 5 (2, 3))) w2.heap.size 27 sABC from alloc_row A5.out) (U6.block _ (by simp; omega) ne1)
  have N6 : RowB w6 (w2.heap.size + 1) 27 sNil := RowB.other (show RowB (w5.alloc (.cells (u8s [97, 98]) 5 (2, 3))) (w2.heap.size + 1) 27 sNil from alloc_row N5.out) (U6.block _ (by simp; omega) ne2)
  have hw6 : w.heap.size ≤ b := by omega
  have h6 : Below w.heap.size w w6 := (h5.out.alloc hs5 _).trans (U6.below (fun i hi e => by omega) (by simp; omega))
  have hs6 := h6.size
  have hb6 := P6'.lt
  have a6 := A6.lt
  have n6 := N6.lt
  clear P6 U6 W6
  have W7 := Lib.hid (write_any (w6.alloc (.cells (u8s [99]) 5 (1, 2))) b [97, 98] 2 (some ⟨w6.heap.size, 0, none⟩) 1 1 (byt [99]) (P6'.stay (S := fun _ => False) ((Upd.refl _ _).alloc _) id) (Nat.le_refl _) (by decide) (lit_bytes [99] (by decide) rfl) (fun _ ob oo e => by cases e; omega))
  replace P6' := Lib.hid P6'
  replace A6 := Lib.hid A6
  replace N6 := Lib.hid N6
  replace h6 := Lib.hid h6
  clear P5 A5 N5 h5
  go_wp2_with fail
  refine Calls.mono (show Calls Try.prog 23 #[.pointer (some ⟨b, 0, none⟩), .slice (some ⟨w6.heap.size, 0, none⟩) 1 1] (w6.alloc (.cells #[.int .u8 99] 5 (1, 2))) _ from W7.out) ?_
  rintro e w7 ⟨rfl, P7, U7⟩
  have P7' : HashP w7 b [97, 98, 99] 3 := P7
  have A7 : RowB w7 w2.heap.size 27 sABC := RowB.other (show RowB (w6.alloc (.cells (u8s [99]) 5 (1, 2))) w2.heap.size 27 sABC from alloc_row A6.out) (U7.block _ (by simp; omega) ne1)
  have N7 : RowB w7 (w2.heap.size + 1) 27 sNil := RowB.other (show RowB (w6.alloc (.cells (u8s [99]) 5 (1, 2))) (w2.heap.size + 1) 27 sNil from alloc_row N6.out) (U7.block _ (by simp; omega) ne2)
  have h7 : Below w.heap.size w w7 := (h6.out.alloc hs6 _).trans (U7.below (fun i hi e => by omega) (by simp; omega))
  have hs7 := h7.size
  have sm := Lib.hid (sum_any w7 b [97, 98, 99] P7' (by decide))
  clear P7 U7 W7 P6' A6 N6 h6
  replace A7 := Lib.hid A7
  replace N7 := Lib.hid N7
  replace h7 := Lib.hid h7
  replace P7' := Lib.hid P7'
  go_wp2_with fail
  refine sm.out.mono ?_
  rintro e w8 ⟨rfl, B8⟩
  rw [show sumOf [97, 98, 99] = sABC from rfl]
  have A8 : RowB w8 w2.heap.size 27 sABC := A7.out.other (B8.block _ A7.out.lt)
  have N8 : RowB w8 (w2.heap.size + 1) 27 sNil := N7.out.other (B8.block _ N7.out.lt)
  have h8 : Below w.heap.size w w8 := h7.out.trans (B8.mono hs7)
  clear sm B8 A7 N7 h7 P7'
  replace A8 := Lib.hid A8
  replace N8 := Lib.hid N8
  replace h8 := Lib.hid h8
  have a8 := A8.out.lt
  have n8 := N8.out.lt
  have hs8 := h8.out.size
  have q1 := fun (x : World) => run_eql_arr (P := Try.prog) Try.underlying27 Try.underlying5 (by kernel_rfl) (sumOf_lt [97, 98, 99]) (sumOf_lt [97, 98, 99]) (length_sumOf _) (length_sumOf _) x
  rw [show sumOf [97, 98, 99] = sABC from rfl, show (sABC == sABC) = true from beq_self_eq_true _] at q1
  go_wp2_with (first
    | (refine wpList_store_row rfl 27 (.tmp 4) (.tmp 24) rfl w8.heap.size (u8s sABC) rfl rfl 27 (u8s (List.replicate 32 0)) (heap_alloc_new _ _) i1 (by rw [l1]; rfl) o1 ?_
       refine name_world ?_; intro w9 hw9
       have C9 : RowB w9 w8.heap.size 27 sABC := by rw [hw9.out]; exact setRow_heap _ _ _ _ _ _ (heap_alloc_new _ _)
       have A9 : RowB w9 w2.heap.size 27 sABC := by rw [hw9.out]; unfold RowB; rw [setRow_other _ _ _ _ (by omega)]; exact alloc_row A8.out
       have N9 : RowB w9 (w2.heap.size + 1) 27 sNil := by rw [hw9.out]; unfold RowB; rw [setRow_other _ _ _ _ (by omega)]; exact alloc_row N8.out
       have h9 : Below w.heap.size w w9 := by rw [hw9.out]; exact below_setRow (h8.out.alloc hs8 _) (by omega) _
       clear hw9
       have e0 := A9.cell (i := 0) (x := 186) (by rw [take_get abc_head (by decide)]; rfl)
       have e1 := A9.cell (i := 1) (x := 120) (by rw [take_get abc_head (by decide)]; rfl)
       have e2 := A9.cell (i := 2) (x := 22) (by rw [take_get abc_head (by decide)]; rfl)
       have e3 := A9.cell (i := 3) (x := 191) (by rw [take_get abc_head (by decide)]; rfl)
       have f0 := N9.cell (i := 0) (x := 227) (by rw [take_get nil_head (by decide)]; rfl)
       have f1 := N9.cell (i := 1) (x := 176) (by rw [take_get nil_head (by decide)]; rfl)
       simp only [show ((186 : Nat) : Int) = 186 from rfl, show ((120 : Nat) : Int) = 120 from rfl, show ((22 : Nat) : Int) = 22 from rfl, show ((191 : Nat) : Int) = 191 from rfl, show ((227 : Nat) : Int) = 227 from rfl, show ((176 : Nat) : Int) = 176 from rfl] at e0 e1 e2 e3 f0 f1
       replace C9 := Lib.hid C9
       replace A9 := Lib.hid A9
       replace N9 := Lib.hid N9
       replace h9 := Lib.hid h9)
    | (refine wpList_load_rowg (by rfl) 27 (.tmp 4) rfl w8.heap.size rfl 27 (u8s sABC) (0, 0) _ C9.out Try.underlying27 rfl i1 ?_)
    | (refine wpList_load_rowg (by rfl) 27 (.tmp 1) rfl w2.heap.size rfl 27 (u8s sABC) (0, 0) _ A9.out Try.underlying27 rfl i1 ?_))
  go_ret
  exact ⟨rfl, h9.out⟩

end Go.Proofs.Ytjbmdeppoobccaa
