/-
  aes: ok, add, rows, columns. Conditions: the cipher lies in a block of its own.
-/
import Derived.Test.YtnadgjlmlnhknaaGf
import Derived.Test.YtnadgjlmlnhknaaRowB
import Derived.Test.YtnadgjlmlnhknaaHeld
import Derived.BigRegion
import Derived.Deep.MidRow
import Derived.Deep.RegionWith
namespace Go.Proofs.Ytnadgjlmlnhknaa
open Go.RowKit

/-- n bytes from o on. -/
def CellsAt (w : World) (b o n : Nat) (f : Nat → Nat) : Prop := ∀ i, i < n → f i < 256 ∧ w.cell? ⟨b, o + i, none⟩ = some (.int .u8 (f i : Int))
/-- A cipher at block b. -/
structure CipherAt (w : World) (b : Nat) (W : Nat → Nat) : Prop where
  lt : b < w.heap.size
  made : w.cell? ⟨b, 0, none⟩ = some (.bool true)
  words : CellsAt w b 1 240 W
  box : CellsAt w b 241 256 gbox
  unb : CellsAt w b 497 256 gunb
  mul : ∀ f, f ∈ [1, 2, 3, 9, 11, 13, 14] → CellsAt w b (753 + 256 * f) 256 (gmul f)
theorem CellsAt.stay {w w' : World} {b o n : Nat} {f : Nat → Nat} (h : CellsAt w b o n f) (e : w'.heap[b]? = w.heap[b]?) : CellsAt w' b o n f := fun i hi =>
  ⟨(h i hi).1, (World.cell?_of_block (w := w) e).trans (h i hi).2⟩
theorem CipherAt.stay {w w' : World} {b : Nat} {W : Nat → Nat} (h : CipherAt w b W) (hs : w.heap.size ≤ w'.heap.size) (e : w'.heap[b]? = w.heap[b]?) : CipherAt w' b W :=
  ⟨Nat.lt_of_lt_of_le h.lt hs, (World.cell?_of_block (w := w) e).trans h.made, h.words.stay e, h.box.stay e, h.unb.stay e, fun f hf => (h.mul f hf).stay e⟩
theorem CipherAt.below {w w' : World} {b n : Nat} {W : Nat → Nat} (h : CipherAt w b W) (hB : Below n w w') (hn : w.heap.size ≤ n) : CipherAt w' b W :=
  h.stay hB.size (hB.block b (Nat.lt_of_lt_of_le h.lt hn))

/-- A block of sixteen bytes as a list. -/
def tab (f : Nat → Nat) : List Nat := (List.range 16).map f
theorem length_tab (f : Nat → Nat) : (tab f).length = 16 := by simp [tab]
theorem byt_tab (f : Nat → Nat) {i : Nat} (hi : i < 16) : byt (tab f) i = f i := by simp [byt, tab, List.getD, hi]
theorem tab_get (f : Nat → Nat) {i : Nat} (hi : i < 16) : (tab f)[i]? = some (f i) := by simp [tab, hi]
theorem tab_ext {f g : Nat → Nat} (h : ∀ i, i < 16 → f i = g i) : tab f = tab g := List.map_congr_left fun i hi => h i (List.mem_range.1 hi)
theorem tab_set (f : Nat → Nat) (k v : Nat) : (tab f).set k v = tab (fun i => if i = k then v else f i) := by
  apply List.ext_getElem?
  intro i
  rw [List.getElem?_set]
  by_cases hi : i < 16
  · rw [tab_get _ hi, tab_get _ hi]
    by_cases e : k = i
    · subst e; simp [length_tab, hi]
    · rw [if_neg e, if_neg (fun h => e h.symm)]
  · have n1 : (tab f)[i]? = none := List.getElem?_eq_none (by rw [length_tab]; omega)
    have n2 : (tab (fun i => if i = k then v else f i))[i]? = none := List.getElem?_eq_none (by rw [length_tab]; omega)
    rw [n1, n2, length_tab]
    by_cases e : k = i
    · rw [if_pos e, if_neg (by omega)]
    · rw [if_neg e]
/-- Done up to k, the rest as it was. -/
def upTo (k : Nat) (g f : Nat → Nat) : Nat → Nat := fun i => if i < k then g i else f i
theorem upTo_set {k : Nat} (g f : Nat → Nat) : (tab (upTo k g f)).set k (g k) = tab (upTo (k + 1) g f) := by
  rw [tab_set]
  apply tab_ext
  intro i _
  unfold upTo
  by_cases h1 : i = k
  · subst h1; simp
  · by_cases h2 : i < k
    · simp [h1, h2, show i < k + 1 by omega]
    · simp [h1, h2, show ¬ i < k + 1 by omega]
theorem size_tab (f : Nat → Nat) : (u8s (tab f)).size = 16 := by simp [u8s, tab]
theorem upTo_none (g f : Nat → Nat) : tab (upTo 0 g f) = tab f := tab_ext fun _ _ => by simp [upTo]
theorem upTo_all (g f : Nat → Nat) : tab (upTo 16 g f) = tab g := tab_ext fun i hi => by simp [upTo, hi]

set_option maxRecDepth 100000 in
theorem ok_any {w : World} {b : Nat} {W : Nat → Nat} (h : CipherAt w b W) :
    Calls Try.prog 47 #[.pointer (some ⟨b, 0, none⟩)] w fun e w' => e = .returned (.bool true) ∧ w = w' := by
  have c0 := h.made
  replace h := Lib.hid h
  go_enter Try.func47, Try.ntmps47
  go_wp2
  go_ret
  exact ⟨rfl, rfl⟩
set_option maxRecDepth 100000 in
theorem ok_nil (w : World) :
    Calls Try.prog 47 #[.pointer none] w fun e w' => e = .returned (.bool false) ∧ w = w' := by
  go_enter Try.func47, Try.ntmps47
  go_wp2
  go_ret
  exact ⟨rfl, rfl⟩
set_option maxRecDepth 100000 in
theorem ok_off {w : World} {b : Nat} (c0 : w.cell? ⟨b, 0, none⟩ = some (.bool false)) :
    Calls Try.prog 47 #[.pointer (some ⟨b, 0, none⟩)] w fun e w' => e = .returned (.bool false) ∧ w = w' := by
  go_enter Try.func47, Try.ntmps47
  go_wp2
  go_ret
  exact ⟨rfl, rfl⟩

set_option maxRecDepth 100000 in
theorem add_any {w : World} {b : Nat} {W : Nat → Nat} (h : CipherAt w b W) (x : Nat → Nat) (hx : Bytes16 x) (r : Nat) (hr : r < 15) :
    Calls Try.prog 48 #[.pointer (some ⟨b, 0, none⟩), .agg (u8s (tab x)), .int .i64 r] w fun e w' => e = .returned (.agg (u8s (tab (addF W r x)))) ∧ Below w.heap.size w w' := by
  have hlt := h.lt
  have hwr : IntKind.i64.wrap (4 * (r : Int)) = 4 * (r : Int) := IntWalk.i64_in _ (by omega)
  replace h := Lib.hid h
  replace hx := Lib.hid hx
  go_enter Try.func48, Try.ntmps48
  go_wp2_with fail
  go_loopw [8] (fun i wr => ∃ k : Nat, k ≤ 16 ∧ i = .int .i64 k ∧ RowB wr w.heap.size 24 (tab (upTo k (addF W r x) x)) ∧ Below w.heap.size w wr ∧ wr.heap[w.heap.size + 1]? = some (.cells (u8s (List.replicate 16 0)) 24 (0, 0))) (fun i _ => 16 - (intOf i).toNat)
  case atStart =>
    have e0 : RowB (w.alloc (.cells (u8s (tab x)) 24)) w.heap.size 24 (tab (upTo 0 (addF W r x) x)) := by rw [upTo_none]; exact heap_alloc_new _ _
    exact ⟨0, Nat.zero_le _, rfl, e0.alloc _, ((Below.refl _ _).alloc (Nat.le_refl _) _).alloc (by simp) _, by rw [show w.heap.size + 1 = (w.alloc (.cells (u8s (tab x)) 24)).heap.size by simp]; exact heap_alloc_new _ _⟩
  case round =>
    obtain ⟨k, hk, rfl, hR, hB, hO⟩ := hrel
    by_cases hlt : k < 16
    · obtain ⟨q, hq⟩ : ∃ q, q = 4 * r + k / 4 := ⟨_, rfl⟩
      obtain ⟨m, hm⟩ : ∃ m, m = k % 4 := ⟨_, rfl⟩
      obtain ⟨d, hd⟩ : ∃ d, d = k / 4 := ⟨_, rfl⟩
      have f1 : IntKind.i64.wrap ((k : Int) / 4) = (d : Int) := by rw [IntWalk.i64_in _ (by omega)]; omega
      have f2 : IntKind.i64.wrap (4 * (r : Int) + (d : Int)) = (q : Int) := by rw [IntWalk.i64_in _ (by omega)]; omega
      have f3 : ((k : Int)).tmod 4 = (m : Int) := by rw [Int.tmod_eq_emod_of_nonneg (by omega)]; omega
      have f4 : (0 : Int) ≤ (q : Int) ∧ (q : Int) < 60 := by omega
      have f5 : (0 : Int) ≤ (m : Int) ∧ (m : Int) < 4 := by omega
      have ea : 1 + q * 4 + m = 1 + (16 * r + k) := by omega
      have hC := h.out.below hB (Nat.le_refl _)
      have cw := (hC.words (16 * r + k) (by omega)).2
      have lW := (hC.words (16 * r + k) (by omega)).1
      have cx := hR.cell (tab_get _ hlt)
      have ex : upTo k (addF W r x) x k = x k := by unfold upTo; rw [if_neg (Nat.lt_irrefl k)]
      have ev := u8_xor_nat (x k) (W (16 * r + k)) (hx.out k hlt) lW
      have nR := hR.set k (addF W r x k)
      rw [upTo_set] at nR
      have fr := hR.frozen k
      have ez : x k ^^^ W (16 * r + k) = addF W r x k := rfl
      have nB := hB.setCell (p := ⟨w.heap.size, k, none⟩) (Nat.le_refl _) (.int .u8 (addF W r x k : Int))
      have nO : (wr.setCell ⟨w.heap.size, k, none⟩ (.int .u8 (addF W r x k : Int))).heap[w.heap.size + 1]? = some (.cells (u8s (List.replicate 16 0)) 24 (0, 0)) := (heap_setCell_other _ _ _ _ (show w.heap.size + 1 ≠ w.heap.size by omega)).trans hO
      rw [ez] at ev
      rw [ex] at cx
      rw [← ea] at cw
      generalize W (16 * r + k) = v at *
      generalize hy : addF W r x k = y at *
      generalize x k = u at *
      replace hR := Lib.hid hR
      replace hB := Lib.hid hB
      replace hO := Lib.hid hO
      replace hC := Lib.hid hC
      replace nR := Lib.hid nR
      replace nB := Lib.hid nB
      replace nO := Lib.hid nO
      replace lW := Lib.hid lW
      replace ez := Lib.hid ez
      replace hd := Lib.hid hd
      replace hm := Lib.hid hm
      replace hq := Lib.hid hq
      replace ea := Lib.hid ea
      replace ex := Lib.hid ex
      replace hy := Lib.hid hy
      go_wp2_with fail
      go_region
      go_wp2_with fail
      go_roundw
      case rel =>
        refine ⟨k + 1, by omega, by go_num, ?_, ?_, ?_⟩
        · exact nR.out
        · exact nB.out.drew
        · exact nO.out
      case measure => simp [intOf]; omega
    · obtain rfl : k = 16 := by omega
      rw [upTo_all] at hR
      have hi : (Try.prog.info? 24).map (·.size) = some (u8s (tab (addF W r x))).size := by rw [size_tab]; rfl
      go_wp2_with (first
        | (refine wpList_load_b (by rfl) 24 (.tmp 4) rfl w.heap.size rfl 24 _ hR _ Try.underlying24 rfl hi ?_)
        | (refine wpList_store_s (by rfl) 24 (.tmp 6) (.tmp 30) rfl (w.heap.size + 1) (tab (addF W r x)) rfl rfl 24 _ hO hi (by rw [size_tab]; rfl) ?_
           intro w2 R2 U2))
      refine ret_row rfl rfl (w.heap.size + 1) 24 _ (0, 0) _ rfl R2.out Try.underlying24 rfl hi ⟨rfl, ?_⟩
      exact hB.trans (U2.out.below (fun k hk e => by omega) hB.size)

/-- Where a row's byte comes from. -/
structure FromAt (way y4 : Int) (src : Nat → Nat) (i : Nat) (p s : Int) : Prop where
  g : src i < 16
  w1 : IntKind.i64.wrap (y4 * ((i % 4 : Nat) : Int)) = p
  w2 : IntKind.i64.wrap ((i : Int) + p) = s
  a : bits .and .i64 s 15 = ((src i : Nat) : Int)

set_option maxRecDepth 100000 in
theorem rows_core {w : World} {bt ot : Nat} {T src : Nat → Nat} (way y4 : Int) (hy : IntKind.i64.wrap (way * 4) = y4) (hs : Hid (∀ i, i < 16 → ∃ p s, FromAt way y4 src i p s)) (hl : bt < w.heap.size) (ht : CellsAt w bt ot 256 T) (x : Nat → Nat) (hx : Bytes16 x) :
    Calls Try.prog 49 #[.agg (u8s (tab x)), .pointer (some ⟨bt, ot, none⟩), .int .i64 way] w fun e w' => e = .returned (.agg (u8s (tab (fun i => T (x (src i)))))) ∧ Below w.heap.size w w' := by
  obtain ⟨g, hg⟩ : ∃ g : Nat → Nat, g = fun i => T (x (src i)) := ⟨_, rfl⟩
  rw [← hg]
  replace ht := Lib.hid ht
  replace hx := Lib.hid hx
  replace hg := Lib.hid hg
  go_enter Try.func49, Try.ntmps49
  go_wp2_with fail
  go_loopw [10] (fun i wr => ∃ k : Nat, k ≤ 16 ∧ i = .int .i64 k ∧ RowB wr w.heap.size 24 (tab x) ∧ RowB wr (w.heap.size + 2) 24 (tab (upTo k g (fun _ => 0))) ∧ Below w.heap.size w wr ∧ RowB wr (w.heap.size + 1) 24 (List.replicate 16 0)) (fun i _ => 16 - (intOf i).toNat)
  case atStart =>
    have e0 : RowB (w.alloc (.cells (u8s (tab x)) 24)) w.heap.size 24 (tab x) := heap_alloc_new _ _
    have e1 : RowB ((w.alloc (.cells (u8s (tab x)) 24)).alloc (.cells (u8s (List.replicate 16 0)) 24)) (w.heap.size + 1) 24 (List.replicate 16 0) := by
      rw [show w.heap.size + 1 = (w.alloc (.cells (u8s (tab x)) 24)).heap.size by simp]; exact heap_alloc_new _ _
    have e2 : RowB (((w.alloc (.cells (u8s (tab x)) 24)).alloc (.cells (u8s (List.replicate 16 0)) 24)).alloc (.cells (u8s (List.replicate 16 0)) 24)) (w.heap.size + 2) 24 (tab (upTo 0 g (fun _ => 0))) := by
      rw [upTo_none, show w.heap.size + 2 = ((w.alloc (.cells (u8s (tab x)) 24)).alloc (.cells (u8s (List.replicate 16 0)) 24)).heap.size by simp]; exact heap_alloc_new _ _
    exact ⟨0, Nat.zero_le _, rfl, (e0.alloc _).alloc _, e2, (((Below.refl _ _).alloc (Nat.le_refl _) _).alloc (by simp) _).alloc (by simp; omega) _, e1.alloc _⟩
  case round =>
    obtain ⟨k, hk, rfl, hX, hR, hB, hO⟩ := hrel
    by_cases hlt : k < 16
    · obtain ⟨p, s, hf⟩ := hs.out k hlt
      have f1 := hf.w1
      have f2 := hf.w2
      have f3 := hf.a
      have f4 := hf.g
      have f0 : ((k : Int)).tmod 4 = ((k % 4 : Nat) : Int) := by rw [Int.tmod_eq_emod_of_nonneg (by omega)]; omega
      have cX := hX.cell (tab_get x f4)
      have lX := hx.out _ f4
      have hT := ht.out.stay (hB.block bt hl)
      have cT := (hT _ lX).2
      have lT := (hT _ lX).1
      have fr := hR.frozen k
      have eg : T (x (src k)) = g k := by rw [hg.out]
      have nR := hR.set k (g k)
      rw [upTo_set] at nR
      have nX := hX.other (heap_setCell_other wr ⟨w.heap.size + 2, k, none⟩ w.heap.size (.int .u8 (g k : Int)) (show w.heap.size ≠ w.heap.size + 2 by omega))
      have nO := hO.other (heap_setCell_other wr ⟨w.heap.size + 2, k, none⟩ (w.heap.size + 1) (.int .u8 (g k : Int)) (show w.heap.size + 1 ≠ w.heap.size + 2 by omega))
      have nB := hB.setCell (p := ⟨w.heap.size + 2, k, none⟩) (by simp) (.int .u8 (g k : Int))
      have c0 := hR.cell (tab_get (upTo k g (fun _ => 0)) hlt)
      rw [eg] at cT
      generalize k % 4 = m at *
      generalize hu : x (src k) = u at *
      generalize hq : src k = q at *
      generalize hv : g k = v at *
      replace hX := Lib.hid hX
      replace hR := Lib.hid hR
      replace hB := Lib.hid hB
      replace hO := Lib.hid hO
      replace nX := Lib.hid nX
      replace nR := Lib.hid nR
      replace nB := Lib.hid nB
      replace nO := Lib.hid nO
      replace lT := Lib.hid lT
      replace hf := Lib.hid hf
      replace hT := Lib.hid hT
      replace eg := Lib.hid eg
      replace hu := Lib.hid hu
      replace hq := Lib.hid hq
      replace hv := Lib.hid hv
      go_wp2_with fail
      go_region
      all_goals
        go_wp2_with fail
        go_roundw
        case rel => exact ⟨k + 1, by omega, by go_num, nX.out.drew, nR.out.drew, nB.out.drew, nO.out.drew⟩
        case measure => simp [intOf]; omega
    · obtain rfl : k = 16 := by omega
      rw [upTo_all] at hR
      have hi : (Try.prog.info? 24).map (·.size) = some (u8s (tab g)).size := by rw [size_tab]; rfl
      go_wp2_with (first
        | (refine wpList_load_b (by rfl) 24 (.tmp 7) rfl (w.heap.size + 2) rfl 24 _ hR _ Try.underlying24 rfl hi ?_)
        | (refine wpList_store_s (by rfl) 24 (.tmp 6) (.tmp 31) rfl (w.heap.size + 1) (tab g) rfl rfl 24 _ hO hi (by rw [size_tab]; rfl) ?_
           intro w2 R2 U2))
      refine ret_row rfl rfl (w.heap.size + 1) 24 _ (0, 0) _ rfl R2.out Try.underlying24 rfl hi ⟨rfl, ?_⟩
      exact hB.trans (U2.out.below (fun k hk e => by omega) hB.size)

theorem rows_any {w : World} {b : Nat} {W : Nat → Nat} (h : CipherAt w b W) (x : Nat → Nat) (hx : Bytes16 x) :
    Calls Try.prog 49 #[.agg (u8s (tab x)), .pointer (some ⟨b, 241, none⟩), .int .i64 1] w fun e w' => e = .returned (.agg (u8s (tab (rowsF gbox x)))) ∧ Below w.heap.size w w' :=
  rows_core 1 4 (by decide) (Lib.hid (fun i hi => ⟨4 * ((i % 4 : Nat) : Int), (i : Int) + 4 * ((i % 4 : Nat) : Int), Nat.mod_lt _ (by decide), IntWalk.i64_in _ (by omega), IntWalk.i64_in _ (by omega), by
    have : ∀ j : Nat, j < 16 → bits .and .i64 ((j : Int) + 4 * ((j % 4 : Nat) : Int)) 15 = (((j + 4 * (j % 4)) % 16 : Nat) : Int) := by decide +kernel
    exact this i hi⟩)) h.lt h.box x hx
theorem rowsB_any {w : World} {b : Nat} {W : Nat → Nat} (h : CipherAt w b W) (x : Nat → Nat) (hx : Bytes16 x) :
    Calls Try.prog 49 #[.agg (u8s (tab x)), .pointer (some ⟨b, 497, none⟩), .int .i64 (-1)] w fun e w' => e = .returned (.agg (u8s (tab (rowsB gunb x)))) ∧ Below w.heap.size w w' :=
  rows_core (-1) (-4) (by decide) (Lib.hid (fun i hi => ⟨-4 * ((i % 4 : Nat) : Int), (i : Int) + -4 * ((i % 4 : Nat) : Int), Nat.mod_lt _ (by decide), IntWalk.i64_in _ (by omega), IntWalk.i64_in _ (by omega), by
    have : ∀ j : Nat, j < 16 → bits .and .i64 ((j : Int) + -4 * ((j % 4 : Nat) : Int)) 15 = (((j + 12 * (j % 4)) % 16 : Nat) : Int) := by decide +kernel
    exact this i hi⟩)) h.lt h.unb x hx

end Go.Proofs.Ytnadgjlmlnhknaa
