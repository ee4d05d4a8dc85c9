/-
  Layer 3's law: alive. No condition.
-/
import Derived.Test.YtjbmdeppoobccaaRefStream
import Derived.Test.YtjbmdeppoobccaaLaw02
namespace Go.Proofs.Ytjbmdeppoobccaa
open Go.RowKit

theorem hs_alloc (w : World) (o : Obj) : (w.alloc o).heap.size = w.heap.size + 1 := by simp
/-- A literal's text, in a block just made and marked. -/
theorem lit_text {w : World} {fr : Nat × Nat} {ty : TypeId} {n : Nat} (t : List Nat) (hs : ∀ x ∈ t, x < 256) (hn : t.length = n) : TextAt (w.alloc (.cells (u8s t) ty fr)) (.slice (some ⟨w.heap.size, 0, none⟩) n n) t :=
  ⟨_, n, by rw [hn], by omega, fun e => by simp at e, by rw [hn]; exact lit_bytes t hs hn⟩
/-- Zeros behind a key of at most 64 bytes are of no matter. -/
theorem padBy_zeros (b : Nat) (key : List Nat) (k : Nat) : padBy b (key ++ List.replicate k 0) = padBy b key := by
  unfold padBy
  refine List.map_congr_left fun i _ => ?_
  congr 1
  rw [byt_append]
  split
  · rfl
  · rename_i h
    have e1 : byt (List.replicate k 0) (i - key.length) = 0 := by
      unfold byt
      rw [List.getD, List.getElem?_replicate]
      split <;> rfl
    rw [e1, byt_beyond (by omega)]
theorem macs_zeros (key t : List Nat) (k : Nat) (h : key.length + k ≤ 64) : macs (key ++ List.replicate k 0) t = macs key t := by
  have e1 : hkey (key ++ List.replicate k 0) = key ++ List.replicate k 0 := by unfold hkey; rw [if_neg (by simp; omega)]
  have e2 : hkey key = key := by unfold hkey; rw [if_neg (by omega)]
  unfold macs
  rw [e1, e2, padBy_zeros, padBy_zeros]
def markKT : List Nat := macs [107] [116]
theorem markKT_ne : (markKT == List.replicate 32 0) = false := by decide +kernel
theorem markKT_two : macs [107, 0] [116] = markKT := macs_zeros [107] [116] 1 (by decide)

set_option maxRecDepth 100000 in
set_option maxHeartbeats 4000000 in
theorem alive03 (w : World) : Calls Try.prog 25 #[] w fun e w' => e = .returned (.bool true) ∧ Below w.heap.size w w' := by
  have hcv : ∀ (x : World) (C : Array Value) (n c g : Nat), g = x.heap.size → (convert 22 22 (.slice (some ⟨g, 0, none⟩) n c)).run Try.prog (x.alloc (.cells C 5)) = .ok (.slice (some ⟨g, 0, none⟩) n c) (x.alloc (.cells C 5 (C.size, C.size + 1))) :=
    fun x C n c g hg => by subst hg; exact Lib.run_convert_bytes_const x 22 5 C n c Try.underlying22 Try.underlying5
  have iA : (Try.prog.info? 27).map (·.size) = some (u8s markKT).size := info_sum _
  have lA : (u8s markKT).size = 32 := size_sumOf _
  have sA : ∀ x ∈ markKT, x < 256 := macs_small _ _
  have lA' : markKT.length = 32 := macs_length _ _
  replace sA := Lib.hid sA
  replace lA' := Lib.hid lA'
  go_enter Try.func25, Try.ntmps25
  go_wp2_with fail
  have m1 := mac_text _ _ _ [107] [116] (((lit_text (w := w) (fr := (1, 2)) (ty := 5) [107] (by decide) rfl)).alloc (.cells (u8s [116]) 5 (1, 2))) (lit_text (w := w.alloc (.cells (u8s [107]) 5 (1, 2))) (fr := (1, 2)) (ty := 5) [116] (by decide) rfl) (by decide) (by decide)
  rw [show macs [107] [116] = markKT from rfl] at m1
  refine Calls.mono (show Calls Try.prog 26 #[.slice (some ⟨w.heap.size, 0, none⟩) 1 1, .slice (some ⟨w.heap.size + 1, 0, none⟩) 1 1] ((w.alloc (.cells #[.int .u8 107] 5 (1, 2))).alloc (.cells #[.int .u8 116] 5 (1, 2))) _ from by have h := m1; rw [hs_alloc] at h; exact h) ?_
  rintro e w1 ⟨rfl, B1⟩
  have b1 : Below w.heap.size w w1 := (((Below.refl _ _).alloc (Nat.le_refl _) _).alloc (by simp) _).trans (B1.mono (by simp; omega))
  have s1 := b1.size
  replace b1 := Lib.hid b1
  replace B1 := Lib.hid B1
  clear m1
  go_wp2_with (first
    | (refine wpList_store_n (by rfl) 27 (.tmp 1) (.tmp 11) rfl markKT rfl rfl iA (by rw [lA]; rfl) ?_; intro w2 R2 B2
       have b2 : Below w.heap.size w w2 := b1.out.trans (B2.out.mono s1)
       have s2 := b2.size
       have lr2 := R2.out.lt
       replace b2 := Lib.hid b2))
  have m2 := mac_text _ _ _ [107, 0] [116] (((lit_text (w := w2) (fr := (0, 0)) (ty := 5) [107, 0] (by decide) rfl)).alloc (.cells (u8s [116]) 5 (1, 2))) (lit_text (w := w2.alloc (.cells (u8s [107, 0]) 5 (0, 0))) (fr := (1, 2)) (ty := 5) [116] (by decide) rfl) (by decide) (by decide)
  rw [markKT_two] at m2
  refine Calls.mono (show Calls Try.prog 26 #[.slice (some ⟨w2.heap.size, 0, none⟩) 2 2, .slice (some ⟨w2.heap.size + 1, 0, none⟩) 1 1] ((w2.alloc (.cells #[.int .u8 107, .int .u8 0] 5)).alloc (.cells #[.int .u8 116] 5 (1, 2))) _ from by have h := m2; rw [hs_alloc] at h; exact h) ?_
  rintro e w3 ⟨rfl, B3⟩
  have b3 : Below w.heap.size w w3 := ((b2.out.alloc s2 _).alloc (by simp; omega) _).trans (B3.mono (by simp; omega))
  have R3 : RowB w3 w1.heap.size 27 markKT := RowB.other (show RowB ((w2.alloc (.cells (u8s [107, 0]) 5 (0, 0))).alloc (.cells (u8s [116]) 5 (1, 2))) w1.heap.size 27 markKT from alloc_row (alloc_row R2.out)) (B3.block _ (by simp; omega))
  have s3 := b3.size
  have lr3 := R3.lt
  replace b3 := Lib.hid b3
  replace B3 := Lib.hid B3
  replace R3 := Lib.hid R3
  clear m2 R2 B2
  go_wp2_with (first
    | (refine wpList_store_n (by rfl) 27 (.tmp 2) (.tmp 15) rfl markKT rfl rfl iA (by rw [lA]; rfl) ?_; intro w4 R4 B4
       have b4 : Below w.heap.size w w4 := b3.out.trans (B4.out.mono s3)
       have A4 : RowB w4 w1.heap.size 27 markKT := R3.out.other (B4.out.block _ lr3)
       have s4 := b4.size
       replace b4 := Lib.hid b4
       replace A4 := Lib.hid A4))
  have m3 := expand_neg w4 (List.replicate 32 0) (.slice none 0 0) (-1) (by decide)
  refine Calls.mono m3 ?_
  rintro e w5 ⟨rfl, B5⟩
  have b5 : Below w.heap.size w w5 := b4.out.trans (B5.mono s4)
  have A5 : RowB w5 w1.heap.size 27 markKT := A4.out.other (B5.block _ A4.out.lt)
  have R5 : RowB w5 w3.heap.size 27 markKT := R4.out.other (B5.block _ R4.out.lt)
  have s5 := b5.size
  replace b5 := Lib.hid b5
  replace B5 := Lib.hid B5
  replace A5 := Lib.hid A5
  replace R5 := Lib.hid R5
  clear m3 R4 B4 A4
  go_wp2_with fail
  have m4 := expand_any (w5.alloc (.cells (u8s [110]) 5 (1, 2))) (1 :: List.replicate 31 0) (some ⟨w5.heap.size, 0, none⟩) 1 1 [110] 40 (by decide) (by decide) (lit_text [110] (by decide) rfl) rfl (by decide) (by decide)
  rw [show ((40 : Nat) : Int) = 40 from rfl] at m4
  refine Calls.mono m4 ?_
  rintro e w6 ⟨a6, rfl, T6, B6⟩
  have b6 : Below w.heap.size w w6 := (b5.out.alloc s5 _).trans (B6.mono (by simp; omega))
  have A6 : RowB w6 w1.heap.size 27 markKT := RowB.other (show RowB (w5.alloc (.cells (u8s [110]) 5 (1, 2))) w1.heap.size 27 markKT from alloc_row A5.out) (B6.block _ (by have := A5.out.lt; simp; omega))
  have R6 : RowB w6 w3.heap.size 27 markKT := RowB.other (show RowB (w5.alloc (.cells (u8s [110]) 5 (1, 2))) w3.heap.size 27 markKT from alloc_row R5.out) (B6.block _ (by have := R5.out.lt; simp; omega))
  have s6 := b6.size
  have lA6 := A6.lt
  have q1 := fun (x : World) => run_equal_arr (P := Try.prog) Try.underlying27 Try.underlying5 (by kernel_rfl) sA.out sA.out lA'.out lA'.out x
  have q2 : ∀ x : World, (Op.equalIn 10000 27 (.agg (u8s markKT)) (.agg #[.int .u8 0, .int .u8 0, .int .u8 0, .int .u8 0, .int .u8 0, .int .u8 0, .int .u8 0, .int .u8 0, .int .u8 0, .int .u8 0, .int .u8 0, .int .u8 0, .int .u8 0, .int .u8 0, .int .u8 0, .int .u8 0, .int .u8 0, .int .u8 0, .int .u8 0, .int .u8 0, .int .u8 0, .int .u8 0, .int .u8 0, .int .u8 0, .int .u8 0, .int .u8 0, .int .u8 0, .int .u8 0, .int .u8 0, .int .u8 0, .int .u8 0, .int .u8 0])).run Try.prog x = .ok false x := fun x => by
    have h := run_equal_arr (P := Try.prog) Try.underlying27 Try.underlying5 (by kernel_rfl) sA.out (b := List.replicate 32 0) (by decide) lA'.out rfl x
    rw [markKT_ne] at h
    exact h
  rw [beq_self_eq_true] at q1
  replace b6 := Lib.hid b6
  replace B6 := Lib.hid B6
  replace A6 := Lib.hid A6
  replace R6 := Lib.hid R6
  replace T6 := Lib.hid T6
  clear m4 A5 R5
  go_wp2_with (first
    | (refine wpList_load_rowg (by rfl) 27 (.tmp 1) rfl w1.heap.size rfl 27 (u8s markKT) (0, 0) _ A6.out Try.underlying27 rfl iA ?_)
    | (refine wpList_load_rowg (by rfl) 27 (.tmp 2) rfl w3.heap.size rfl 27 (u8s markKT) (0, 0) _ R6.out Try.underlying27 rfl iA ?_))
  have tA := A6.out.text sA.out lA'.out
  have m5 := right_any _ _ _ _ [107] [116] markKT (((lit_text (w := w6) (fr := (1, 2)) (ty := 5) [107] (by decide) rfl)).alloc (.cells (u8s [116]) 5 (1, 2))) (lit_text (w := w6.alloc (.cells (u8s [107]) 5 (1, 2))) (fr := (1, 2)) (ty := 5) [116] (by decide) rfl) ((tA.alloc _).alloc _) (by decide) (by decide) (by rw [lA'.out]; decide)
  rw [show macs [107] [116] = markKT from rfl, beq_self_eq_true] at m5
  refine Calls.mono (show Calls Try.prog 28 #[.slice (some ⟨w6.heap.size, 0, none⟩) 1 1, .slice (some ⟨w6.heap.size + 1, 0, none⟩) 1 1, .slice (some ⟨w1.heap.size, 0, none⟩) 32 32] ((w6.alloc (.cells #[.int .u8 107] 5 (1, 2))).alloc (.cells #[.int .u8 116] 5 (1, 2))) _ from by have h := m5; rw [hs_alloc] at h; exact h) ?_
  rintro e w7 ⟨rfl, B7⟩
  have b7 : Below w.heap.size w w7 := ((b6.out.alloc s6 _).alloc (by simp; omega) _).trans (B7.mono (by simp; omega))
  replace b7 := Lib.hid b7
  replace B7 := Lib.hid B7
  clear m5
  go_wp2_with fail
  go_ret
  exact ⟨rfl, b7.out⟩

end Go.Proofs.Ytjbmdeppoobccaa
