/-
  aes: ok, add, rows, columns. Conditions: the cipher lies in a block of its own.
  xts: Double and Tweak. Condition: a mask of bytes.
-/
import Derived.Test.YtecmagenlbnchaaQGfRef
import Derived.Test.YtecmagenlbnchaaQRowB
import Derived.Test.YtecmagenlbnchaaQHeld
import Derived.BigRegion
import Derived.Deep.MidRow
import Derived.Deep.RegionWith
import Derived.Test.YtecmagenlbnchaaQGfRefPlain
namespace Go.Proofs.Ytecmagenlbnchaa
set_option maxRecDepth 100000
open Go.RowKit

/-- n bytes from o on. -/
def CellsAt (w : World) (b o n : Nat) (f : Nat → Nat) : Prop := ∀ i, i < n → f i < 256 ∧ w.cell? ⟨b, o + i, none⟩ = some (.int .u8 (f i : Int))
/-- A cipher at block b. -/
structure CipherAt (w : World) (b : Nat) (W : Nat → Nat) : Prop where
  lt : b < w.heap.size
  made : w.cell? ⟨b, 0, none⟩ = some (.bool true)
  words : CellsAt w b 1 240 W
  box : CellsAt w b 241 256 gbox
  unb : CellsAt w b 497 256 gunb
  mul : ∀ f, f ∈ [1, 2, 3, 9, 11, 13, 14] → CellsAt w b (753 + 256 * f) 256 (gmul f)
theorem CellsAt.stay {w w' : World} {b o n : Nat} {f : Nat → Nat} (h : CellsAt w b o n f) (e : w'.heap[b]? = w.heap[b]?) : CellsAt w' b o n f := fun i hi =>
  ⟨(h i hi).1, (World.cell?_of_block (w := w) e).trans (h i hi).2⟩
theorem CipherAt.stay {w w' : World} {b : Nat} {W : Nat → Nat} (h : CipherAt w b W) (hs : w.heap.size ≤ w'.heap.size) (e : w'.heap[b]? = w.heap[b]?) : CipherAt w' b W :=
  ⟨Nat.lt_of_lt_of_le h.lt hs, (World.cell?_of_block (w := w) e).trans h.made, h.words.stay e, h.box.stay e, h.unb.stay e, fun f hf => (h.mul f hf).stay e⟩
theorem CipherAt.below {w w' : World} {b n : Nat} {W : Nat → Nat} (h : CipherAt w b W) (hB : Below n w w') (hn : w.heap.size ≤ n) : CipherAt w' b W :=
  h.stay hB.size (hB.block b (Nat.lt_of_lt_of_le h.lt hn))

/-- A block of sixteen bytes as a list. -/
def tab (f : Nat → Nat) : List Nat := (List.range 16).map f
theorem length_tab (f : Nat → Nat) : (tab f).length = 16 := by simp [tab]
theorem byt_tab (f : Nat → Nat) {i : Nat} (hi : i < 16) : byt (tab f) i = f i := by simp [byt, tab, List.getD, hi]
theorem tab_get (f : Nat → Nat) {i : Nat} (hi : i < 16) : (tab f)[i]? = some (f i) := by simp [tab, hi]
theorem tab_ext {f g : Nat → Nat} (h : ∀ i, i < 16 → f i = g i) : tab f = tab g := List.map_congr_left fun i hi => h i (List.mem_range.1 hi)
theorem tab_set (f : Nat → Nat) (k v : Nat) : (tab f).set k v = tab (fun i => if i = k then v else f i) := by
  apply List.ext_getElem?
  intro i
  rw [List.getElem?_set]
  by_cases hi : i < 16
  · rw [tab_get _ hi, tab_get _ hi]
    by_cases e : k = i
    · subst e; simp [length_tab, hi]
    · rw [if_neg e, if_neg (fun h => e h.symm)]
  · have n1 : (tab f)[i]? = none := List.getElem?_eq_none (by rw [length_tab]; omega)
    have n2 : (tab (fun i => if i = k then v else f i))[i]? = none := List.getElem?_eq_none (by rw [length_tab]; omega)
    rw [n1, n2, length_tab]
    by_cases e : k = i
    · rw [if_pos e, if_neg (by omega)]
    · rw [if_neg e]
/-- Done up to k, the rest as it was. -/
def upTo (k : Nat) (g f : Nat → Nat) : Nat → Nat := fun i => if i < k then g i else f i
theorem upTo_set {k : Nat} (g f : Nat → Nat) : (tab (upTo k g f)).set k (g k) = tab (upTo (k + 1) g f) := by
  rw [tab_set]
  apply tab_ext
  intro i _
  unfold upTo
  by_cases h1 : i = k
  · subst h1; simp
  · by_cases h2 : i < k
    · simp [h1, h2, show i < k + 1 by omega]
    · simp [h1, h2, show ¬ i < k + 1 by omega]
theorem size_tab (f : Nat → Nat) : (u8s (tab f)).size = 16 := by simp [u8s, tab]
theorem upTo_none (g f : Nat → Nat) : tab (upTo 0 g f) = tab f := tab_ext fun _ _ => by simp [upTo]
theorem upTo_all (g f : Nat → Nat) : tab (upTo 16 g f) = tab g := tab_ext fun i hi => by simp [upTo, hi]

set_option maxRecDepth 100000 in
theorem ok_any {w : World} {b : Nat} {W : Nat → Nat} (h : CipherAt w b W) :
    Calls Try.prog 78 #[.pointer (some ⟨b, 0, none⟩)] w fun e w' => e = .returned (.bool true) ∧ w = w' := by
  have c0 := h.made
  replace h := Lib.hid h
  go_enter Try.func78, Try.ntmps78
  go_wp2
  go_ret
  exact ⟨rfl, rfl⟩
set_option maxRecDepth 100000 in
theorem ok_nil (w : World) :
    Calls Try.prog 78 #[.pointer none] w fun e w' => e = .returned (.bool false) ∧ w = w' := by
  go_enter Try.func78, Try.ntmps78
  go_wp2
  go_ret
  exact ⟨rfl, rfl⟩
set_option maxRecDepth 100000 in
theorem ok_off {w : World} {b : Nat} (c0 : w.cell? ⟨b, 0, none⟩ = some (.bool false)) :
    Calls Try.prog 78 #[.pointer (some ⟨b, 0, none⟩)] w fun e w' => e = .returned (.bool false) ∧ w = w' := by
  go_enter Try.func78, Try.ntmps78
  go_wp2
  go_ret
  exact ⟨rfl, rfl⟩

set_option maxRecDepth 100000 in
theorem add_any {w : World} {b : Nat} {W : Nat → Nat} (h : CipherAt w b W) (x : Nat → Nat) (hx : Bytes16 x) (r : Nat) (hr : r < 15) :
    Calls Try.prog 79 #[.pointer (some ⟨b, 0, none⟩), .agg (u8s (tab x)), .int .i64 r] w fun e w' => e = .returned (.agg (u8s (tab (addF W r x)))) ∧ Below w.heap.size w w' := by
  have hlt := h.lt
  have hwr : IntKind.i64.wrap (4 * (r : Int)) = 4 * (r : Int) := IntWalk.i64_in _ (by omega)
  replace h := Lib.hid h
  replace hx := Lib.hid hx
  go_enter Try.func79, Try.ntmps79
  go_wp2_with fail
  go_loopw [8] (fun i wr => ∃ k : Nat, k ≤ 16 ∧ i = .int .i64 k ∧ RowB wr w.heap.size 91 (tab (upTo k (addF W r x) x)) ∧ Below w.heap.size w wr ∧ wr.heap[w.heap.size + 1]? = some (.cells (u8s (List.replicate 16 0)) 91 (0, 0))) (fun i _ => 16 - (intOf i).toNat)
  case atStart =>
    have e0 : RowB (w.alloc (.cells (u8s (tab x)) 91)) w.heap.size 91 (tab (upTo 0 (addF W r x) x)) := by rw [upTo_none]; exact heap_alloc_new _ _
    exact ⟨0, Nat.zero_le _, rfl, e0.alloc _, ((Below.refl _ _).alloc (Nat.le_refl _) _).alloc (by simp) _, by rw [show w.heap.size + 1 = (w.alloc (.cells (u8s (tab x)) 91)).heap.size by simp]; exact heap_alloc_new _ _⟩
  case round =>
    obtain ⟨k, hk, rfl, hR, hB, hO⟩ := hrel
    by_cases hlt : k < 16
    · obtain ⟨q, hq⟩ : ∃ q, q = 4 * r + k / 4 := ⟨_, rfl⟩
      obtain ⟨m, hm⟩ : ∃ m, m = k % 4 := ⟨_, rfl⟩
      obtain ⟨d, hd⟩ : ∃ d, d = k / 4 := ⟨_, rfl⟩
      have f1 : IntKind.i64.wrap ((k : Int) / 4) = (d : Int) := by rw [IntWalk.i64_in _ (by omega)]; omega
      have f2 : IntKind.i64.wrap (4 * (r : Int) + (d : Int)) = (q : Int) := by rw [IntWalk.i64_in _ (by omega)]; omega
      have f3 : ((k : Int)).tmod 4 = (m : Int) := by rw [Int.tmod_eq_emod_of_nonneg (by omega)]; omega
      have f4 : (0 : Int) ≤ (q : Int) ∧ (q : Int) < 60 := by omega
      have f5 : (0 : Int) ≤ (m : Int) ∧ (m : Int) < 4 := by omega
      have ea : 1 + q * 4 + m = 1 + (16 * r + k) := by omega
      have hC := h.out.below hB (Nat.le_refl _)
      have cw := (hC.words (16 * r + k) (by omega)).2
      have lW := (hC.words (16 * r + k) (by omega)).1
      have cx := hR.cell (tab_get _ hlt)
      have ex : upTo k (addF W r x) x k = x k := by unfold upTo; rw [if_neg (Nat.lt_irrefl k)]
      have ev := u8_xor_nat (x k) (W (16 * r + k)) (hx.out k hlt) lW
      have nR := hR.set k (addF W r x k)
      rw [upTo_set] at nR
      have fr := hR.frozen k
      have ez : x k ^^^ W (16 * r + k) = addF W r x k := rfl
      have nB := hB.setCell (p := ⟨w.heap.size, k, none⟩) (Nat.le_refl _) (.int .u8 (addF W r x k : Int))
      have nO : (wr.setCell ⟨w.heap.size, k, none⟩ (.int .u8 (addF W r x k : Int))).heap[w.heap.size + 1]? = some (.cells (u8s (List.replicate 16 0)) 91 (0, 0)) := (heap_setCell_other _ _ _ _ (show w.heap.size + 1 ≠ w.heap.size by omega)).trans hO
      rw [ez] at ev
      rw [ex] at cx
      rw [← ea] at cw
      generalize W (16 * r + k) = v at *
      generalize hy : addF W r x k = y at *
      generalize x k = u at *
      replace hR := Lib.hid hR
      replace hB := Lib.hid hB
      replace hO := Lib.hid hO
      replace hC := Lib.hid hC
      replace nR := Lib.hid nR
      replace nB := Lib.hid nB
      replace nO := Lib.hid nO
      replace lW := Lib.hid lW
      replace ez := Lib.hid ez
      replace hd := Lib.hid hd
      replace hm := Lib.hid hm
      replace hq := Lib.hid hq
      replace ea := Lib.hid ea
      replace ex := Lib.hid ex
      replace hy := Lib.hid hy
      go_wp2_with fail
      go_region
      go_wp2_with fail
      go_roundw
      case rel =>
        refine ⟨k + 1, by omega, by go_num, ?_, ?_, ?_⟩
        · exact nR.out
        · exact nB.out.drew
        · exact nO.out
      case measure => simp [intOf]; omega
    · obtain rfl : k = 16 := by omega
      rw [upTo_all] at hR
      have hi : (Try.prog.info? 91).map (·.size) = some (u8s (tab (addF W r x))).size := by rw [size_tab]; rfl
      go_wp2_with (first
        | (refine wpList_load_b (by rfl) 91 (.tmp 4) rfl w.heap.size rfl 91 _ hR _ Try.underlying91 rfl hi ?_)
        | (refine wpList_store_s (by rfl) 91 (.tmp 6) (.tmp 30) rfl (w.heap.size + 1) (tab (addF W r x)) rfl rfl 91 _ hO hi (by rw [size_tab]; rfl) ?_
           intro w2 R2 U2))
      refine ret_row rfl rfl (w.heap.size + 1) 91 _ (0, 0) _ rfl R2.out Try.underlying91 rfl hi ⟨rfl, ?_⟩
      exact hB.trans (U2.out.below (fun k hk e => by omega) hB.size)

/-- Where a row's byte comes from. -/
structure FromAt (way y4 : Int) (src : Nat → Nat) (i : Nat) (p s : Int) : Prop where
  g : src i < 16
  w1 : IntKind.i64.wrap (y4 * ((i % 4 : Nat) : Int)) = p
  w2 : IntKind.i64.wrap ((i : Int) + p) = s
  a : bits .and .i64 s 15 = ((src i : Nat) : Int)

set_option maxRecDepth 100000 in
theorem rows_core {w : World} {bt ot : Nat} {T src : Nat → Nat} (way y4 : Int) (hy : IntKind.i64.wrap (way * 4) = y4) (hs : Hid (∀ i, i < 16 → ∃ p s, FromAt way y4 src i p s)) (hl : bt < w.heap.size) (ht : CellsAt w bt ot 256 T) (x : Nat → Nat) (hx : Bytes16 x) :
    Calls Try.prog 80 #[.agg (u8s (tab x)), .pointer (some ⟨bt, ot, none⟩), .int .i64 way] w fun e w' => e = .returned (.agg (u8s (tab (fun i => T (x (src i)))))) ∧ Below w.heap.size w w' := by
  obtain ⟨g, hg⟩ : ∃ g : Nat → Nat, g = fun i => T (x (src i)) := ⟨_, rfl⟩
  rw [← hg]
  replace ht := Lib.hid ht
  replace hx := Lib.hid hx
  replace hg := Lib.hid hg
  go_enter Try.func80, Try.ntmps80
  go_wp2_with fail
  go_loopw [10] (fun i wr => ∃ k : Nat, k ≤ 16 ∧ i = .int .i64 k ∧ RowB wr w.heap.size 91 (tab x) ∧ RowB wr (w.heap.size + 2) 91 (tab (upTo k g (fun _ => 0))) ∧ Below w.heap.size w wr ∧ RowB wr (w.heap.size + 1) 91 (List.replicate 16 0)) (fun i _ => 16 - (intOf i).toNat)
  case atStart =>
    have e0 : RowB (w.alloc (.cells (u8s (tab x)) 91)) w.heap.size 91 (tab x) := heap_alloc_new _ _
    have e1 : RowB ((w.alloc (.cells (u8s (tab x)) 91)).alloc (.cells (u8s (List.replicate 16 0)) 91)) (w.heap.size + 1) 91 (List.replicate 16 0) := by
      rw [show w.heap.size + 1 = (w.alloc (.cells (u8s (tab x)) 91)).heap.size by simp]; exact heap_alloc_new _ _
    have e2 : RowB (((w.alloc (.cells (u8s (tab x)) 91)).alloc (.cells (u8s (List.replicate 16 0)) 91)).alloc (.cells (u8s (List.replicate 16 0)) 91)) (w.heap.size + 2) 91 (tab (upTo 0 g (fun _ => 0))) := by
      rw [upTo_none, show w.heap.size + 2 = ((w.alloc (.cells (u8s (tab x)) 91)).alloc (.cells (u8s (List.replicate 16 0)) 91)).heap.size by simp]; exact heap_alloc_new _ _
    exact ⟨0, Nat.zero_le _, rfl, (e0.alloc _).alloc _, e2, (((Below.refl _ _).alloc (Nat.le_refl _) _).alloc (by simp) _).alloc (by simp; omega) _, e1.alloc _⟩
  case round =>
    obtain ⟨k, hk, rfl, hX, hR, hB, hO⟩ := hrel
    by_cases hlt : k < 16
    · obtain ⟨p, s, hf⟩ := hs.out k hlt
      have f1 := hf.w1
      have f2 := hf.w2
      have f3 := hf.a
      have f4 := hf.g
      have f0 : ((k : Int)).tmod 4 = ((k % 4 : Nat) : Int) := by rw [Int.tmod_eq_emod_of_nonneg (by omega)]; omega
      have cX := hX.cell (tab_get x f4)
      have lX := hx.out _ f4
      have hT := ht.out.stay (hB.block bt hl)
      have cT := (hT _ lX).2
      have lT := (hT _ lX).1
      have fr := hR.frozen k
      have eg : T (x (src k)) = g k := by rw [hg.out]
      have nR := hR.set k (g k)
      rw [upTo_set] at nR
      have nX := hX.other (heap_setCell_other wr ⟨w.heap.size + 2, k, none⟩ w.heap.size (.int .u8 (g k : Int)) (show w.heap.size ≠ w.heap.size + 2 by omega))
      have nO := hO.other (heap_setCell_other wr ⟨w.heap.size + 2, k, none⟩ (w.heap.size + 1) (.int .u8 (g k : Int)) (show w.heap.size + 1 ≠ w.heap.size + 2 by omega))
      have nB := hB.setCell (p := ⟨w.heap.size + 2, k, none⟩) (by simp) (.int .u8 (g k : Int))
      have c0 := hR.cell (tab_get (upTo k g (fun _ => 0)) hlt)
      rw [eg] at cT
      generalize k % 4 = m at *
      generalize hu : x (src k) = u at *
      generalize hq : src k = q at *
      generalize hv : g k = v at *
      replace hX := Lib.hid hX
      replace hR := Lib.hid hR
      replace hB := Lib.hid hB
      replace hO := Lib.hid hO
      replace nX := Lib.hid nX
      replace nR := Lib.hid nR
      replace nB := Lib.hid nB
      replace nO := Lib.hid nO
      replace lT := Lib.hid lT
      replace hf := Lib.hid hf
      replace hT := Lib.hid hT
      replace eg := Lib.hid eg
      replace hu := Lib.hid hu
      replace hq := Lib.hid hq
      replace hv := Lib.hid hv
      go_wp2_with fail
      go_region
      all_goals
        go_wp2_with fail
        go_roundw
        case rel => exact ⟨k + 1, by omega, by go_num, nX.out.drew, nR.out.drew, nB.out.drew, nO.out.drew⟩
        case measure => simp [intOf]; omega
    · obtain rfl : k = 16 := by omega
      rw [upTo_all] at hR
      have hi : (Try.prog.info? 91).map (·.size) = some (u8s (tab g)).size := by rw [size_tab]; rfl
      go_wp2_with (first
        | (refine wpList_load_b (by rfl) 91 (.tmp 7) rfl (w.heap.size + 2) rfl 91 _ hR _ Try.underlying91 rfl hi ?_)
        | (refine wpList_store_s (by rfl) 91 (.tmp 6) (.tmp 31) rfl (w.heap.size + 1) (tab g) rfl rfl 91 _ hO hi (by rw [size_tab]; rfl) ?_
           intro w2 R2 U2))
      refine ret_row rfl rfl (w.heap.size + 1) 91 _ (0, 0) _ rfl R2.out Try.underlying91 rfl hi ⟨rfl, ?_⟩
      exact hB.trans (U2.out.below (fun k hk e => by omega) hB.size)

theorem rows_any {w : World} {b : Nat} {W : Nat → Nat} (h : CipherAt w b W) (x : Nat → Nat) (hx : Bytes16 x) :
    Calls Try.prog 80 #[.agg (u8s (tab x)), .pointer (some ⟨b, 241, none⟩), .int .i64 1] w fun e w' => e = .returned (.agg (u8s (tab (rowsF gbox x)))) ∧ Below w.heap.size w w' :=
  rows_core 1 4 (by decide) (Lib.hid (fun i hi => ⟨4 * ((i % 4 : Nat) : Int), (i : Int) + 4 * ((i % 4 : Nat) : Int), Nat.mod_lt _ (by decide), IntWalk.i64_in _ (by omega), IntWalk.i64_in _ (by omega), by
    have : ∀ j : Nat, j < 16 → bits .and .i64 ((j : Int) + 4 * ((j % 4 : Nat) : Int)) 15 = (((j + 4 * (j % 4)) % 16 : Nat) : Int) := by decide +kernel
    exact this i hi⟩)) h.lt h.box x hx
theorem rowsB_any {w : World} {b : Nat} {W : Nat → Nat} (h : CipherAt w b W) (x : Nat → Nat) (hx : Bytes16 x) :
    Calls Try.prog 80 #[.agg (u8s (tab x)), .pointer (some ⟨b, 497, none⟩), .int .i64 (-1)] w fun e w' => e = .returned (.agg (u8s (tab (rowsB gunb x)))) ∧ Below w.heap.size w w' :=
  rows_core (-1) (-4) (by decide) (Lib.hid (fun i hi => ⟨-4 * ((i % 4 : Nat) : Int), (i : Int) + -4 * ((i % 4 : Nat) : Int), Nat.mod_lt _ (by decide), IntWalk.i64_in _ (by omega), IntWalk.i64_in _ (by omega), by
    have : ∀ j : Nat, j < 16 → bits .and .i64 ((j : Int) + -4 * ((j % 4 : Nat) : Int)) 15 = (((j + 12 * (j % 4)) % 16 : Nat) : Int) := by decide +kernel
    exact this i hi⟩)) h.lt h.unb x hx

end Go.Proofs.Ytecmagenlbnchaa
namespace Go.Proofs.Ytecmagenlbnchaa
set_option maxRecDepth 100000
open Go.RowKit

theorem info16' (f : Nat → Nat) : (Try.prog.info? 91).map (·.size) = some (u8s (tab f)).size := by rw [size_tab]; rfl
theorem size8' : (Try.prog.info? 5).map (·.size) = some 1 := by kernel_rfl
theorem cry_beq {c : Nat} : ((c : Int) == 1) = decide (c = 1) := by rw [Bool.eq_iff_iff, beq_iff_eq, decide_eq_true_iff]; omega

set_option maxRecDepth 100000 in
theorem xdouble_any (m : Nat → Nat) (hm : Bytes16 m) (w : World) :
    Calls Try.prog 77 #[.agg (u8s (tab m))] w fun e w' => e = .returned (.agg (u8s (tab (dblM m)))) ∧ Below w.heap.size w w' := by
  have hix : ∀ k : Nat, k < 16 → ∀ x, (Instr.index 91 (.agg (u8s (tab m))) (.int .i64 (k : Int))).run Try.prog x = .ok (.int .u8 (m k : Int)) x := fun k hk x =>
    run_index_row x 91 5 16 (u8s (tab m)) .i64 k _ Try.underlying91 (by kernel_rfl) size8' hk (by simp [u8s, tab_get m hk])
  have r0 : RowB (w.alloc (.cells (u8s (tab m)) 91)) w.heap.size 91 (tab m) := heap_alloc_new _ _
  have r0' := r0.alloc (.cells (u8s (List.replicate 16 0)) 91)
  have r1 : RowB ((w.alloc (.cells (u8s (tab m)) 91)).alloc (.cells (u8s (List.replicate 16 0)) 91)) (w.heap.size + 1) 91 (List.replicate 16 0) := by
    rw [show w.heap.size + 1 = (w.alloc (.cells (u8s (tab m)) 91)).heap.size by simp]; exact heap_alloc_new _ _
  have low : Below w.heap.size w ((w.alloc (.cells (u8s (tab m)) 91)).alloc (.cells (u8s (List.replicate 16 0)) 91)) := ((Below.refl _ _).alloc (Nat.le_refl _) _).alloc (by simp) _
  have i16 := info16' m
  have i16d := info16' (dblM m)
  replace hm := Lib.hid hm
  replace hix := Lib.hid hix
  replace r0 := Lib.hid r0
  replace r1 := Lib.hid r1
  replace low := Lib.hid low
  go_enter Try.func77, Try.ntmps77
  go_wp2_with (refine wpList_load_b (by rfl) 91 (.tmp 1) rfl w.heap.size rfl 91 (tab m) r0' _ Try.underlying91 rfl i16 ?_)
  go_loopw [3, 7] (fun c i wr => ∃ k : Nat, k ≤ 16 ∧ c = .int .u8 (cry m k) ∧ i = .int .i64 k ∧ RowB wr w.heap.size 91 (tab (upTo k (dbl0 m) m)) ∧ RowB wr (w.heap.size + 1) 91 (List.replicate 16 0) ∧ Below w.heap.size w wr) (fun _ i _ => 16 - (intOf i).toNat)
  case atStart => exact ⟨0, Nat.zero_le _, rfl, rfl, by rw [upTo_none]; exact r0', r1.out, low.out⟩
  case round =>
    clear r0' r0 r1 low
    obtain ⟨k, hk, rfl, rfl, hR, hO, hB⟩ := hrel
    by_cases hlt : k < 16
    · have ix := hix.out k hlt
      have lm := hm.out k hlt
      have lc := cry_lt hm.out (show k ≤ 16 by omega)
      have es : cry m (k + 1) = m k / 128 := rfl
      have fr := hR.frozen k
      have eo : bits .or .u8 ((m k : Int) * 2 % 256) (cry m k : Int) = (dbl0 m k : Int) := by
        rw [show (m k : Int) * 2 % 256 = ((2 * m k % 256 : Nat) : Int) by omega, u8_or_nat _ _ (Nat.mod_lt _ (by decide)) (by omega)]; rfl
      have c0 := hR.cell (tab_get (upTo k (dbl0 m) m) hlt)
      have nR := hR.set k (dbl0 m k)
      rw [upTo_set] at nR
      have nO := hO.other (heap_setCell_other wr ⟨w.heap.size, k, none⟩ (w.heap.size + 1) (.int .u8 (dbl0 m k : Int)) (show w.heap.size + 1 ≠ w.heap.size by omega))
      have nB := hB.setCell (p := ⟨w.heap.size, k, none⟩) (Nat.le_refl _) (.int .u8 (dbl0 m k : Int))
      generalize upTo k (dbl0 m) m k = old at *
      generalize dbl0 m k = d at *
      generalize cry m k = cc at *
      generalize hx : m k = x at *
      replace hR := Lib.hid hR
      replace hO := Lib.hid hO
      replace hB := Lib.hid hB
      replace nR := Lib.hid nR
      replace nO := Lib.hid nO
      replace nB := Lib.hid nB
      replace es := Lib.hid es
      replace hx := Lib.hid hx
      replace lc := Lib.hid lc
      go_wp2_with fail
      go_roundw
      case rel => exact ⟨k + 1, by omega, by rw [es.out]; go_num, by go_num, nR.out, nO.out, nB.out⟩
      case measure => simp [intOf]; omega
    · obtain rfl : k = 16 := by omega
      rw [upTo_all] at hR
      have lc := cry_lt hm.out (show 16 ≤ 16 by omega)
      have ec : cry m 16 = m 15 / 128 := rfl
      have cb := @cry_beq (cry m 16)
      have fr := hR.frozen 0
      have c0 := hR.cell (tab_get (dbl0 m) (show 0 < 16 by decide))
      by_cases hc : cry m 16 = 1
      · rw [decide_eq_true hc] at cb
        have ex : bits .xor .u8 (dbl0 m 0 : Int) 135 = ((dbl0 m 0 ^^^ 135 : Nat) : Int) := u8_xor_nat (dbl0 m 0) 135 (dbl0_lt hm.out 0 (by decide)) (by decide)
        have nR := hR.set 0 (dbl0 m 0 ^^^ 135)
        have eT : (tab (dbl0 m)).set 0 (dbl0 m 0 ^^^ 135) = tab (dblM m) := by
          rw [tab_set]
          refine tab_ext fun i hi => ?_
          unfold dblM
          by_cases h0 : i = 0
          · rw [if_pos h0, if_pos ⟨h0, ec ▸ hc⟩]
          · rw [if_neg h0, if_neg (fun h => h0 h.1)]
        rw [eT] at nR
        have nO := hO.other (heap_setCell_other wr ⟨w.heap.size, 0, none⟩ (w.heap.size + 1) (.int .u8 ((dbl0 m 0 ^^^ 135 : Nat) : Int)) (show w.heap.size + 1 ≠ w.heap.size by omega))
        have nB := hB.setCell (p := ⟨w.heap.size, 0, none⟩) (Nat.le_refl _) (.int .u8 ((dbl0 m 0 ^^^ 135 : Nat) : Int))
        generalize cry m 16 = cc at *
        generalize dbl0 m 0 ^^^ 135 = d2 at *
        generalize dbl0 m 0 = d at *
        replace hR := Lib.hid hR
        replace hO := Lib.hid hO
        replace hB := Lib.hid hB
        replace nB := Lib.hid nB
        replace eT := Lib.hid eT
        replace hc := Lib.hid hc
        replace ec := Lib.hid ec
        replace lc := Lib.hid lc
        replace hm := Lib.hid hm
        replace hix := Lib.hid hix
        go_wp2_with (first
          | (refine wpList_load_b (by rfl) 91 (.tmp 1) rfl w.heap.size rfl 91 (tab (dblM m)) nR _ Try.underlying91 rfl i16d ?_)
          | (refine wpList_store_s (by rfl) 91 (.tmp 2) (.tmp 26) rfl (w.heap.size + 1) (tab (dblM m)) rfl rfl 91 _ nO i16d (by rw [size_tab]; rfl) ?_
             intro w2 R2 U2))
        refine ret_row rfl rfl (w.heap.size + 1) 91 _ (0, 0) _ rfl R2.out Try.underlying91 rfl i16d ⟨rfl, ?_⟩
        exact nB.out.trans (U2.out.below (fun k hk e => by omega) nB.out.size)
      · rw [decide_eq_false hc] at cb
        have eT : tab (dbl0 m) = tab (dblM m) := by
          refine tab_ext fun i hi => ?_
          unfold dblM
          rw [if_neg (fun h => hc (ec ▸ h.2))]
        rw [eT] at hR
        generalize cry m 16 = cc at *
        replace hB := Lib.hid hB
        replace eT := Lib.hid eT
        replace hc := Lib.hid hc
        replace ec := Lib.hid ec
        replace lc := Lib.hid lc
        replace hm := Lib.hid hm
        replace hix := Lib.hid hix
        go_wp2_with (first
          | (refine wpList_load_b (by rfl) 91 (.tmp 1) rfl w.heap.size rfl 91 (tab (dblM m)) hR _ Try.underlying91 rfl i16d ?_)
          | (refine wpList_store_s (by rfl) 91 (.tmp 2) (.tmp 26) rfl (w.heap.size + 1) (tab (dblM m)) rfl rfl 91 _ hO i16d (by rw [size_tab]; rfl) ?_
             intro w2 R2 U2))
        refine ret_row rfl rfl (w.heap.size + 1) 91 _ (0, 0) _ rfl R2.out Try.underlying91 rfl i16d ⟨rfl, ?_⟩
        exact hB.out.trans (U2.out.below (fun k hk e => by omega) hB.out.size)

set_option maxRecDepth 100000 in
theorem xtweak_any (s : Nat) (w : World) :
    Calls Try.prog 53 #[.int .u64 s] w fun e w' => e = .returned (.agg (u8s (tab (twk s)))) ∧ Below w.heap.size w w' := by
  have i16 := info16' (twk s)
  go_enter Try.func53, Try.ntmps53
  go_wp2_with fail
  go_loopw [5] (fun i wr => ∃ k : Nat, k ≤ 8 ∧ i = .int .i64 k ∧ RowB wr w.heap.size 91 (List.replicate 16 0) ∧ RowB wr (w.heap.size + 1) 91 (tab (upTo k (twk s) (fun _ => 0))) ∧ Below w.heap.size w wr) (fun i _ => 8 - (intOf i).toNat)
  case atStart =>
    have r0 : RowB (w.alloc (.cells (u8s (List.replicate 16 0)) 91)) w.heap.size 91 (List.replicate 16 0) := heap_alloc_new _ _
    have r1 : RowB ((w.alloc (.cells (u8s (List.replicate 16 0)) 91)).alloc (.cells (u8s (List.replicate 16 0)) 91)) (w.heap.size + 1) 91 (tab (upTo 0 (twk s) (fun _ => 0))) := by
      rw [upTo_none, show w.heap.size + 1 = (w.alloc (.cells (u8s (List.replicate 16 0)) 91)).heap.size by simp]; exact heap_alloc_new _ _
    exact ⟨0, Nat.zero_le _, rfl, r0.alloc _, r1, ((Below.refl _ _).alloc (Nat.le_refl _) _).alloc (by simp) _⟩
  case round =>
    obtain ⟨k, hk, rfl, hO, hR, hB⟩ := hrel
    by_cases hlt : k < 8
    · have f1 : IntKind.i64.wrap (8 * (k : Int)) = ((8 * k : Nat) : Int) := by rw [IntWalk.i64_in _ (by omega)]; omega
      have f2 : wrap64 (8 * (k : Int)) = ((8 * k : Nat) : Int) := by rw [IntWalk.wrap64_in _ (by omega)]; omega
      have fr := hR.frozen k
      have ev : (s : Int) / 2 ^ (8 * k) % 256 = (twk s k : Int) := by
        unfold twk
        rw [if_pos hlt, show (256 : Nat) ^ k = 2 ^ (8 * k) by rw [Nat.pow_mul]]; simp
      have c0 := hR.cell (tab_get (upTo k (twk s) (fun _ => 0)) (show k < 16 by omega))
      have nR := hR.set k (twk s k)
      rw [upTo_set] at nR
      have nO := hO.other (heap_setCell_other wr ⟨w.heap.size + 1, k, none⟩ w.heap.size (.int .u8 (twk s k : Int)) (show w.heap.size ≠ w.heap.size + 1 by omega))
      have nB := hB.setCell (p := ⟨w.heap.size + 1, k, none⟩) (by simp) (.int .u8 (twk s k : Int))
      generalize upTo k (twk s) (fun _ => 0) k = old at *
      generalize twk s k = d at *
      replace hR := Lib.hid hR
      replace hO := Lib.hid hO
      replace hB := Lib.hid hB
      replace nR := Lib.hid nR
      replace nO := Lib.hid nO
      replace nB := Lib.hid nB
      go_wp2_with fail
      go_roundw
      case rel => exact ⟨k + 1, by omega, by go_num, nO.out, nR.out, nB.out⟩
      case measure => simp [intOf]; omega
    · obtain rfl : k = 8 := by omega
      have eT : tab (upTo 8 (twk s) (fun _ => 0)) = tab (twk s) := tab_ext fun i hi => by
        unfold upTo twk
        by_cases h : i < 8
        · rw [if_pos h]
        · rw [if_neg h, if_neg h]
      rw [eT] at hR
      replace hB := Lib.hid hB
      replace eT := Lib.hid eT
      go_wp2_with (first
        | (refine wpList_load_b (by rfl) 91 (.tmp 3) rfl (w.heap.size + 1) rfl 91 (tab (twk s)) hR _ Try.underlying91 rfl i16 ?_)
        | (refine wpList_store_s (by rfl) 91 (.tmp 2) (.tmp 16) rfl w.heap.size (tab (twk s)) rfl rfl 91 _ hO i16 (by rw [size_tab]; rfl) ?_
           intro w2 R2 U2))
      refine ret_row rfl rfl w.heap.size 91 _ (0, 0) _ rfl R2.out Try.underlying91 rfl i16 ⟨rfl, ?_⟩
      exact hB.out.trans (U2.out.below (fun k hk e => by omega) hB.out.size)
end Go.Proofs.Ytecmagenlbnchaa
