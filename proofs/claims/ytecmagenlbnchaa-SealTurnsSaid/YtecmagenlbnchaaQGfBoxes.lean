/-
  gf's Boxes: the boxes of all bytes, and the other way round. No condition.
-/
import Derived.Test.YtecmagenlbnchaaQXtsDouble
import Derived.Great.Walk
namespace Go.Proofs.Ytecmagenlbnchaa
set_option maxRecDepth 100000
open Go.RowKit

/-- n numbers of a function. -/
def tabN (n : Nat) (f : Nat → Nat) : List Nat := (List.range n).map f
theorem length_tabN (n : Nat) (f : Nat → Nat) : (tabN n f).length = n := by simp [tabN]
theorem tabN_get {n : Nat} (f : Nat → Nat) {i : Nat} (hi : i < n) : (tabN n f)[i]? = some (f i) := by simp [tabN, hi]
theorem tabN_ext {n : Nat} {f g : Nat → Nat} (h : ∀ i, i < n → f i = g i) : tabN n f = tabN n g := List.map_congr_left fun i hi => h i (List.mem_range.1 hi)
theorem tabN_up {n k : Nat} (g f : Nat → Nat) : (tabN n (upTo k g f)).set k (g k) = tabN n (upTo (k + 1) g f) := by
  apply List.ext_getElem?
  intro i
  rw [List.getElem?_set]
  by_cases hi : i < n
  · rw [tabN_get _ hi, tabN_get _ hi]
    unfold upTo
    by_cases e : k = i
    · subst e; simp [length_tabN, hi]
    · rw [if_neg e]
      by_cases h2 : i < k
      · simp [h2, show i < k + 1 by omega]
      · simp [h2, show ¬ i < k + 1 by omega]
  · have n1 : (tabN n (upTo k g f))[i]? = none := List.getElem?_eq_none (by rw [length_tabN]; omega)
    have n2 : (tabN n (upTo (k + 1) g f))[i]? = none := List.getElem?_eq_none (by rw [length_tabN]; omega)
    rw [n1, n2, length_tabN]
    by_cases e : k = i
    · rw [if_pos e, if_neg (by omega)]
    · rw [if_neg e]
theorem tabN_none (n : Nat) (g : Nat → Nat) : tabN n (upTo 0 g (fun _ => 0)) = List.replicate n 0 := by
  apply List.ext_getElem?
  intro i
  by_cases hi : i < n
  · rw [tabN_get _ hi, List.getElem?_replicate, if_pos hi]; simp [upTo]
  · rw [List.getElem?_eq_none (by rw [length_tabN]; omega), List.getElem?_eq_none (by simp; omega)]
theorem tabN_all (n : Nat) (g f : Nat → Nat) : tabN n (upTo n g f) = tabN n g := tabN_ext fun i hi => by simp [upTo, hi]
theorem length_unbTo : ∀ k, (unbTo k).length = 256
  | 0 => List.length_replicate
  | k + 1 => by rw [unbTo, List.length_set, length_unbTo k]

set_option maxRecDepth 100000 in
theorem zero256 : Try.zeroCells117 = u8s (List.replicate 256 0) := by kernel_rfl

theorem results_row2 {P : Program} {fn : Func} {p q : Tmp} {ty : TypeId} (h : fn.results = #[.cell p ty, .cell q ty]) (tmps : Array Value) (w : World) (g k : Nat) (t u : TypeId) (cs ds : Array Value) (fr gr : Nat × Nat) (d : TypeDesc)
    (hp : tmps.getD p undef = .pointer (some ⟨g, 0, none⟩)) (hq : tmps.getD q undef = .pointer (some ⟨k, 0, none⟩)) (hg : w.heap[g]? = some (.cells cs t fr)) (hk : w.heap[k]? = some (.cells ds u gr))
    (hu : P.underlying ty = some d) (hd : (match d with | .struct _ | .array _ _ => true | _ => false) = true) (hi : (P.info? ty).map (·.size) = some cs.size) (hj : (P.info? ty).map (·.size) = some ds.size) :
    (results fn tmps).run P w = .ok (.tuple #[.agg cs, .agg ds]) w := by
  have hp' : tmps[p]?.getD undef = .pointer (some ⟨g, 0, none⟩) := by simpa using hp
  have hq' : tmps[q]?.getD undef = .pointer (some ⟨k, 0, none⟩) := by simpa using hq
  simp [results, h, hp', hq', asAddr, run_loadVar_row w g t ty cs fr d hg hu hd hi, run_loadVar_row w k u ty ds gr d hk hu hd hj]

/-- What Boxes keeps. -/
structure BoxSt (w wr : World) (k : Nat) : Prop where
  a : RowB wr w.heap.size 117 (List.replicate 256 0)
  b : RowB wr (w.heap.size + 1) 117 (List.replicate 256 0)
  c : RowB wr (w.heap.size + 2) 117 (tabN 256 (upTo k gbox (fun _ => 0)))
  d : RowB wr (w.heap.size + 3) 117 (unbTo k)
  low : Below w.heap.size w wr
theorem BoxSt.put {w wr : World} {k : Nat} (h : BoxSt w wr k) : BoxSt w ((wr.setCell ⟨w.heap.size + 2, k, none⟩ (.int .u8 (gbox k : Int))).setCell ⟨w.heap.size + 3, gbox k, none⟩ (.int .u8 (k : Int))) (k + 1) := by
  have c1 := h.c.set k (gbox k)
  rw [tabN_up] at c1
  have d0 := h.d.other (heap_setCell_other wr ⟨w.heap.size + 2, k, none⟩ (w.heap.size + 3) (.int .u8 (gbox k : Int)) (show w.heap.size + 3 ≠ w.heap.size + 2 by omega))
  have a0 := h.a.other (heap_setCell_other wr ⟨w.heap.size + 2, k, none⟩ w.heap.size (.int .u8 (gbox k : Int)) (show w.heap.size ≠ w.heap.size + 2 by omega))
  have b0 := h.b.other (heap_setCell_other wr ⟨w.heap.size + 2, k, none⟩ (w.heap.size + 1) (.int .u8 (gbox k : Int)) (show w.heap.size + 1 ≠ w.heap.size + 2 by omega))
  exact ⟨a0.other (heap_setCell_other _ _ _ _ (show w.heap.size ≠ w.heap.size + 3 by omega)), b0.other (heap_setCell_other _ _ _ _ (show w.heap.size + 1 ≠ w.heap.size + 3 by omega)),
    c1.other (heap_setCell_other _ _ _ _ (show w.heap.size + 2 ≠ w.heap.size + 3 by omega)), d0.set (gbox k) k,
    (h.low.setCell (p := ⟨w.heap.size + 2, k, none⟩) (by simp) _).setCell (p := ⟨w.heap.size + 3, gbox k, none⟩) (by simp) _⟩
theorem BoxSt.begin (w : World) : BoxSt w ((((w.alloc (.cells (u8s (List.replicate 256 0)) 117)).alloc (.cells (u8s (List.replicate 256 0)) 117)).alloc (.cells (u8s (List.replicate 256 0)) 117)).alloc (.cells (u8s (List.replicate 256 0)) 117)) 0 := by
  obtain ⟨o, ho⟩ : ∃ o, o = u8s (List.replicate 256 0) := ⟨_, rfl⟩
  have s1 : (w.alloc (.cells o 117)).heap.size = w.heap.size + 1 := by simp
  have s2 : ((w.alloc (.cells o 117)).alloc (.cells o 117)).heap.size = w.heap.size + 2 := by simp
  have s3 : (((w.alloc (.cells o 117)).alloc (.cells o 117)).alloc (.cells o 117)).heap.size = w.heap.size + 3 := by simp
  have r0 : RowB (w.alloc (.cells o 117)) w.heap.size 117 (List.replicate 256 0) := by unfold RowB; rw [← ho]; exact heap_alloc_new _ _
  have r1 : RowB ((w.alloc (.cells o 117)).alloc (.cells o 117)) (w.heap.size + 1) 117 (List.replicate 256 0) := by unfold RowB; rw [← ho, ← s1]; exact heap_alloc_new _ _
  have r2 : RowB (((w.alloc (.cells o 117)).alloc (.cells o 117)).alloc (.cells o 117)) (w.heap.size + 2) 117 (List.replicate 256 0) := by unfold RowB; rw [← ho, ← s2]; exact heap_alloc_new _ _
  have r3 : RowB ((((w.alloc (.cells o 117)).alloc (.cells o 117)).alloc (.cells o 117)).alloc (.cells o 117)) (w.heap.size + 3) 117 (List.replicate 256 0) := by unfold RowB; rw [← ho, ← s3]; exact heap_alloc_new _ _
  rw [← ho]
  refine ⟨((r0.alloc _).alloc _).alloc _, (r1.alloc _).alloc _, ?_, r3, ((((Below.refl _ _).alloc (Nat.le_refl _) _).alloc (by simp) _).alloc (by simp; omega) _).alloc (by simp; omega) _⟩
  rw [tabN_none]
  exact r2.alloc _

set_option maxRecDepth 100000 in
theorem boxes_any (w : World) :
    Calls Try.prog 88 #[] w fun e w' => e = .returned (.tuple #[.agg (u8s (tabN 256 gbox)), .agg (u8s (unbTo 256))]) ∧ Below w.heap.size w w' := by
  have sb := Lib.hid (BoxSt.begin w)
  obtain ⟨L1, h1⟩ : ∃ L, L = tabN 256 gbox := ⟨_, rfl⟩
  obtain ⟨L2, h2⟩ : ∃ L, L = unbTo 256 := ⟨_, rfl⟩
  rw [← h1, ← h2]
  replace h1 := Lib.hid h1
  replace h2 := Lib.hid h2
  go_enter Try.func88, Try.ntmps88
  go_wp2_with fail
  rw [zero256]
  go_loopw [6] (fun i wr => ∃ k : Nat, k ≤ 256 ∧ i = .int .i64 k ∧ BoxSt w wr k) (fun i _ => 256 - (intOf i).toNat)
  case atStart => exact ⟨0, Nat.zero_le _, rfl, sb.out⟩
  case round =>
    clear sb
    obtain ⟨k, hk, rfl, st⟩ := hrel
    by_cases hlt : k < 256
    · have f1 : IntKind.u8.wrap (k : Int) = (k : Int) := IntWalk.u8_in _ (by omega)
      have cb := Lib.hid (fun wr => gbox_any k wr hlt)
      have lb : gbox k < 256 := gbox_lt hlt
      have cC := st.c.cell (tabN_get (upTo k gbox (fun _ => 0)) hlt)
      have eD : (unbTo k)[gbox k]? = some ((unbTo k).getD (gbox k) 0) := by simp [List.getD, length_unbTo, lb]
      have cD := st.d.cell eD
      have fC := st.c.frozen k
      have fD := st.d.frozen (gbox k)
      have nx := st.put
      clear eD
      generalize gbox k = g at *
      generalize (unbTo k).getD g 0 = u at *
      generalize upTo k gbox (fun _ => 0) k = v at *
      replace st := Lib.hid st
      replace nx := Lib.hid nx
      go_wp2_with fail
      refine (cb.out _).mono ?_
      rintro e w2 ⟨rfl, rfl⟩
      go_wp2_with fail
      go_roundw
      case rel => exact ⟨k + 1, by omega, by go_num, nx.out⟩
      case measure => simp [intOf]; omega
    · obtain rfl : k = 256 := by omega
      have eL := tabN_all 256 gbox (fun _ => 0)
      have rC := st.c
      rw [eL] at rC
      clear eL
      have rD := st.d
      have rA := st.a
      have rB := st.b
      have low := st.low
      have i1 : (Try.prog.info? 117).map (·.size) = some (u8s (tabN 256 gbox)).size := by rw [show (u8s (tabN 256 gbox)).size = 256 by simp [u8s, length_tabN]]; rfl
      have i2 : (Try.prog.info? 117).map (·.size) = some (u8s (unbTo 256)).size := by rw [show (u8s (unbTo 256)).size = 256 by simp only [u8s, List.size_toArray, List.length_map, length_unbTo]]; rfl
      have z1 : (u8s (List.replicate 256 0)).size = (u8s (tabN 256 gbox)).size := by simp only [u8s, List.size_toArray, List.length_map, length_tabN, List.length_replicate]
      have z2 : (u8s (List.replicate 256 0)).size = (u8s (unbTo 256)).size := by simp only [u8s, List.size_toArray, List.length_map, length_unbTo, List.length_replicate]
      rw [← h1.out] at rC i1 z1
      rw [← h2.out] at rD i2 z2
      replace rA := Lib.hid rA
      replace rB := Lib.hid rB
      replace low := Lib.hid low
      replace st := Lib.hid st
      go_wp2_with fail
      refine wp_region_held_drew (S := (fun w' => RowB w' (w.heap.size + 2) 117 L1 ∧ RowB w' (w.heap.size + 3) 117 L2)) (by kernel_rfl) (⟨rC, rD⟩) (fun hHeld => ?_)
      refine held_take (i := 0) (v := _) rfl (by kernel_rfl) (by kernel_rfl) (by kernel_rfl) (fun _ _ _ h => h) (yieldsIf_row (by rfl) rfl rfl Try.underlying117 i1 (fun w' h => h.1)) (by assumption) ?_
      try simp only [Act.put, List.setIfInBounds_toArray, List.set_cons_zero, List.set_cons_succ]
      refine held_take (i := 1) (v := _) rfl (by kernel_rfl) (by kernel_rfl) (by kernel_rfl) (fun _ _ _ h => h) (yieldsIf_row (by rfl) rfl rfl Try.underlying117 i2 (fun w' h => h.2)) (by assumption) ?_
      try simp only [Act.put, List.setIfInBounds_toArray, List.set_cons_zero, List.set_cons_succ]
      refine held_ready (i := 2) rfl (by kernel_rfl) (fun K hK => ?_)
      rw [if_pos (by rfl)]
      refine wp_store_s 117 (.tmp 0) (.tmp 20) rfl w.heap.size L1 rfl rfl 117 _ rA.out i1 z1 ?_
      intro w2 R2 U2
      have c2 := rC.other (U2.out.block _ rC.lt (show ¬ w.heap.size + 2 = w.heap.size by omega))
      have d2 := rD.other (U2.out.block _ rD.lt (show ¬ w.heap.size + 3 = w.heap.size by omega))
      have b2 := rB.out.other (U2.out.block _ rB.out.lt (show ¬ w.heap.size + 1 = w.heap.size by omega))
      have low2 := low.out.drew.trans (U2.out.below (fun k hk e => by omega) low.out.size)
      replace b2 := Lib.hid b2
      replace low2 := Lib.hid low2
      replace U2 := Lib.hid U2
      refine hK.out _ _ (⟨c2, d2⟩) (fun hHeldN => ?_)
      clear hHeld hK K
      have hHeld := hHeldN
      clear hHeldN
      try simp only [Act.put]
      refine held_ready (i := 3) rfl (by kernel_rfl) (fun K hK => ?_)
      rw [if_pos (by rfl)]
      refine wp_store_s 117 (.tmp 1) (.tmp 21) rfl (w.heap.size + 1) L2 rfl rfl 117 _ b2.out i2 z2 ?_
      intro w3 R3 U3
      have c3 := c2.other (U3.out.block _ c2.lt (show ¬ w.heap.size + 2 = w.heap.size + 1 by omega))
      have d3 := d2.other (U3.out.block _ d2.lt (show ¬ w.heap.size + 3 = w.heap.size + 1 by omega))
      have a3 := R2.out.other (U3.out.block _ R2.out.lt (show ¬ w.heap.size = w.heap.size + 1 by omega))
      have low3 := low2.out.trans (U3.out.below (fun k hk e => by omega) low2.out.size)
      replace a3 := Lib.hid a3
      replace low3 := Lib.hid low3
      replace U3 := Lib.hid U3
      refine hK.out _ _ (⟨c3, d3⟩) (fun hHeldN => ?_)
      clear hHeld hK K
      have hHeld := hHeldN
      clear hHeldN
      try simp only [Act.put]
      refine wpAnyH_done (by kernel_rfl) ?_ _
      clear hHeld
      go_wp2_with fail
      exact bodyPost_ret (results_row2 rfl _ _ w.heap.size (w.heap.size + 1) 117 117 _ _ (0, 0) (0, 0) _ rfl rfl a3.out R3.out Try.underlying117 rfl i1 i2) rfl ⟨rfl, low3.out⟩
end Go.Proofs.Ytecmagenlbnchaa
