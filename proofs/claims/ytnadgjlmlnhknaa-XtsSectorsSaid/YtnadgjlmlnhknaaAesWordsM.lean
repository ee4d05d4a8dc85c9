/-
  aes: Words. Conditions: the cipher lies in a block of its own; or there is none.
-/
import Derived.Test.YtnadgjlmlnhknaaLaw05
import Derived.ChangeKeysEq
namespace Go.Proofs.Ytnadgjlmlnhknaa
open Go.RowKit

set_option maxRecDepth 100000 in
theorem zero60 : Try.zeroCells32 = u8s (List.replicate 240 0) := by kernel_rfl
theorem info60 {l : List Nat} (h : l.length = 240) : (Try.prog.info? 32).map (·.size) = some (u8s l).size := by rw [show (u8s l).size = 240 by simp only [u8s, List.size_toArray, List.length_map, h]]; rfl
theorem size60 {l : List Nat} (h : l.length = 240) : (u8s (List.replicate 240 0)).size = (u8s l).size := by simp only [u8s, List.size_toArray, List.length_map, h, List.length_replicate]

set_option maxRecDepth 100000 in
theorem words_any {w : World} {b : Nat} {W : Nat → Nat} (h : CipherAt w b W) :
    Calls Try.prog 24 #[.pointer (some ⟨b, 0, none⟩)] w fun e w' => e = .returned (.agg (u8s (tabN 240 W))) ∧ Below w.heap.size w w' := by
  obtain ⟨L, hL⟩ : ∃ L, L = tabN 240 W := ⟨_, rfl⟩
  rw [← hL]
  have lL : L.length = 240 := by rw [hL, length_tabN]
  have iL := info60 lL
  have zL := size60 lL
  have B0 : Below w.heap.size w (w.alloc (.cells (u8s (List.replicate 240 0)) 32)) := (Below.refl _ _).alloc (Nat.le_refl _) _
  have h1 := h.below B0 (Nat.le_refl _)
  have ok := Lib.hid (ok_any h1)
  have r0 : RowB (w.alloc (.cells (u8s (List.replicate 240 0)) 32)) w.heap.size 32 (List.replicate 240 0) := heap_alloc_new _ _
  have hr : ∀ w1, CipherAt w1 b W → w1.rangeAt b 1 (u8s L).toList := fun w1 g j v hv => by
    have hj : j < 240 := by
      have h2 := (List.getElem?_eq_some_iff.1 hv).1
      simpa [u8s, lL] using h2
    have e : (u8s L).toList[j]? = some (.int .u8 (W j : Int)) := by rw [hL]; simp [u8s, tabN, hj]
    rw [e] at hv
    cases hv
    exact (g.words j hj).2
  replace h := Lib.hid h
  replace h1 := Lib.hid h1
  replace hL := Lib.hid hL
  replace lL := Lib.hid lL
  replace B0 := Lib.hid B0
  replace r0 := Lib.hid r0
  replace hr := Lib.hid hr
  go_enter Try.func24, Try.ntmps24
  go_wp2_with fail
  rw [zero60]
  refine ok.out.mono ?_
  rintro e w1 ⟨rfl, e1⟩
  have r1 : RowB w1 w.heap.size 32 (List.replicate 240 0) := e1 ▸ r0.out
  have h2 : CipherAt w1 b W := e1 ▸ h1.out
  have B1 : Below w.heap.size w w1 := e1 ▸ B0.out
  have g1 := hr.out w1 h2
  have iL' : (Try.prog.info? 32).map (·.size) = some (u8s L).toList.length := by simpa using iL
  clear e1
  replace h2 := Lib.hid h2
  replace B1 := Lib.hid B1
  go_wp2_with (first
    | (refine wpList_load_mid (by rfl) 32 (.tmp 9) rfl b 1 rfl _ _ g1 Try.underlying32 rfl iL' ?_)
    | (refine wpList_store_s (by rfl) 32 (.tmp 2) (.tmp 10) rfl w.heap.size L rfl rfl 32 _ r1 iL zL ?_; intro w2 R2 U2))
  refine ret_row rfl rfl w.heap.size 32 _ (0, 0) _ rfl R2.out Try.underlying32 rfl iL ⟨rfl, ?_⟩
  exact B1.out.trans (U2.out.below (fun k hk e => by omega) B1.out.size)

set_option maxRecDepth 100000 in
theorem words_nil (w : World) :
    Calls Try.prog 24 #[.pointer none] w fun e w' => e = .returned (.agg (u8s (List.replicate 240 0))) ∧ Below w.heap.size w w' := by
  have B0 : Below w.heap.size w (w.alloc (.cells (u8s (List.replicate 240 0)) 32)) := (Below.refl _ _).alloc (Nat.le_refl _) _
  have ok := Lib.hid (ok_nil (w.alloc (.cells (u8s (List.replicate 240 0)) 32)))
  have r0 : RowB (w.alloc (.cells (u8s (List.replicate 240 0)) 32)) w.heap.size 32 (List.replicate 240 0) := heap_alloc_new _ _
  have iL := info60 (l := List.replicate 240 0) List.length_replicate
  replace B0 := Lib.hid B0
  replace r0 := Lib.hid r0
  go_enter Try.func24, Try.ntmps24
  go_wp2_with fail
  rw [zero60]
  refine ok.out.mono ?_
  rintro e w1 ⟨rfl, e1⟩
  have r1 : RowB w1 w.heap.size 32 (List.replicate 240 0) := e1 ▸ r0.out
  have B1 : Below w.heap.size w w1 := e1 ▸ B0.out
  clear e1
  replace B1 := Lib.hid B1
  go_wp2_with (first
    | (refine wpList_store_s (by rfl) 32 (.tmp 2) (.tmp 6) rfl w.heap.size (List.replicate 240 0) rfl (congrArg Value.agg zero60) 32 _ r1 iL rfl ?_; intro w2 R2 U2))
  refine ret_row rfl rfl w.heap.size 32 _ (0, 0) _ rfl R2.out Try.underlying32 rfl iL ⟨rfl, ?_⟩
  exact B1.out.trans (U2.out.below (fun k hk e => by omega) B1.out.size)
end Go.Proofs.Ytnadgjlmlnhknaa
