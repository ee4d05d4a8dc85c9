/-
  sha's take: a block into eight words. Conditions: the hash lies in a block of its own, its words and bytes are of their kinds.
-/
import Derived.Test.YtjhfoddhpmmjoaaDoorQShaStart
import Derived.Test.YtjhfoddhpmmjoaaDoorQOctetPut
import Derived.Deep.MidRow
import Derived.BigQuiet
import Derived.Deep.QuietTactic
import Derived.StillTailTactics
import Derived.Deep.RegionWith
namespace Go.Proofs.YtjhfoddhpmmjoaaDoor
set_option maxRecDepth 100000
open Go.RowKit

/-- The cells of a hash. -/
def hashCells (h buf : List Nat) (n count : Nat) : Array Value :=
  (Value.bool true :: (h.map fun (x : Nat) => Value.int .u32 (x : Int)) ++ (buf.map fun (x : Nat) => Value.int .u8 (x : Int)) ++ [Value.int .i64 n, Value.int .u64 count]).toArray

/-- A hash at block b. -/
structure HashRaw (w : World) (b : Nat) (h buf : List Nat) (n count : Nat) : Prop where
  lh : h.length = 8
  lb : buf.length = 64
  sh : Small h
  sb : ∀ x ∈ buf, x < 256
  cells : w.heap[b]? = some (.cells (hashCells h buf n count) 156 (0, 0))

theorem HashRaw.c0 {w : World} {b : Nat} {h buf : List Nat} {n count : Nat} (H : HashRaw w b h buf n count) : w.cell? ⟨b, 0, none⟩ = some (.bool true) := by
  rw [cell_of_row _ _ _ _ _ _ H.cells]; simp [hashCells]
theorem HashRaw.ch {w : World} {b : Nat} {h buf : List Nat} {n count : Nat} (H : HashRaw w b h buf n count) (i : Nat) (hi : i < 8) : w.cell? ⟨b, 1 + i, none⟩ = some (.int .u32 (h.getD i 0 : Nat)) := by
  rw [cell_of_row _ _ _ _ _ _ H.cells]
  have h1 := H.lh
  simp only [hashCells, List.getElem?_toArray, Nat.add_comm 1 i, List.cons_append, List.getElem?_cons_succ]
  rw [List.append_assoc, List.getElem?_append_left (by simp; omega)]
  simp [List.getD, show i < h.length by omega]
theorem HashRaw.cb {w : World} {b : Nat} {h buf : List Nat} {n count : Nat} (H : HashRaw w b h buf n count) (i : Nat) (hi : i < 64) : w.cell? ⟨b, 9 + i, none⟩ = some (.int .u8 (buf.getD i 0 : Nat)) := by
  rw [cell_of_row _ _ _ _ _ _ H.cells]
  have h1 := H.lh
  have h2 := H.lb
  simp only [hashCells, List.getElem?_toArray, show 9 + i = (8 + i) + 1 by omega, List.cons_append, List.getElem?_cons_succ]
  rw [List.append_assoc, List.getElem?_append_right (by simp; omega), List.getElem?_append_left (by simp; omega)]
  simp [List.getD, h1, show i < buf.length by omega]
theorem HashRaw.cn {w : World} {b : Nat} {h buf : List Nat} {n count : Nat} (H : HashRaw w b h buf n count) : w.cell? ⟨b, 73, none⟩ = some (.int .i64 n) := by
  rw [cell_of_row _ _ _ _ _ _ H.cells]
  have h1 := H.lh
  have h2 := H.lb
  simp only [hashCells, List.getElem?_toArray, List.cons_append, List.getElem?_cons_succ]
  rw [List.append_assoc, List.getElem?_append_right (by simp; omega), List.getElem?_append_right (by simp; omega)]
  simp [h1, h2]
theorem HashRaw.cc {w : World} {b : Nat} {h buf : List Nat} {n count : Nat} (H : HashRaw w b h buf n count) : w.cell? ⟨b, 74, none⟩ = some (.int .u64 count) := by
  rw [cell_of_row _ _ _ _ _ _ H.cells]
  have h1 := H.lh
  have h2 := H.lb
  simp only [hashCells, List.getElem?_toArray, List.cons_append, List.getElem?_cons_succ]
  rw [List.append_assoc, List.getElem?_append_right (by simp; omega), List.getElem?_append_right (by simp; omega)]
  simp [h1, h2]

theorem HashRaw.below {w w' : World} {b : Nat} {h buf : List Nat} {n count : Nat} (H : HashRaw w b h buf n count) (hB : Below w.heap.size w w') : HashRaw w' b h buf n count :=
  ⟨H.lh, H.lb, H.sh, H.sb, (hB.block b (lt_of_block H.cells)).trans H.cells⟩
theorem HashRaw.frozen {w : World} {b : Nat} {h buf : List Nat} {n count : Nat} (H : HashRaw w b h buf n count) (i : Nat) : w.frozen? ⟨b, i, none⟩ = false := frozen_of_row _ _ _ _ _ H.cells
theorem HashRaw.setH {w : World} {b : Nat} {h buf : List Nat} {n count : Nat} (H : HashRaw w b h buf n count) {i : Nat} (hi : i < 8) (x : Nat) (hx : x < M32) :
    HashRaw (w.setCell ⟨b, 1 + i, none⟩ (.int .u32 (x : Int))) b (h.set i x) buf n count := by
  refine ⟨by simpa using H.lh, H.lb, ?_, H.sb, ?_⟩
  · intro y hy
    rcases List.mem_or_eq_of_mem_set hy with h1 | rfl
    · exact H.sh y h1
    · exact hx
  · rw [heap_setCell_same _ _ _ _ _ _ H.cells]
    have h1 := H.lh
    simp only [hashCells, List.setIfInBounds_toArray, Nat.add_comm 1 i, List.cons_append, List.set_cons_succ, List.append_assoc, List.map_set]
    rw [List.set_append_left _ _ (by simp; omega)]
theorem HashRaw.setN {w : World} {b : Nat} {h buf : List Nat} {n count : Nat} (H : HashRaw w b h buf n count) (x : Nat) :
    HashRaw (w.setCell ⟨b, 73, none⟩ (.int .i64 (x : Int))) b h buf x count := by
  refine ⟨H.lh, H.lb, H.sh, H.sb, ?_⟩
  rw [heap_setCell_same _ _ _ _ _ _ H.cells]
  have h1 := H.lh
  have h2 := H.lb
  simp only [hashCells, List.setIfInBounds_toArray, List.cons_append, List.set_cons_succ, List.append_assoc]
  rw [List.set_append_right _ _ (by simp; omega), List.set_append_right _ _ (by simp; omega)]
  simp [h1, h2]
theorem HashRaw.setC {w : World} {b : Nat} {h buf : List Nat} {n count : Nat} (H : HashRaw w b h buf n count) (x : Nat) :
    HashRaw (w.setCell ⟨b, 74, none⟩ (.int .u64 (x : Int))) b h buf n x := by
  refine ⟨H.lh, H.lb, H.sh, H.sb, ?_⟩
  rw [heap_setCell_same _ _ _ _ _ _ H.cells]
  have h1 := H.lh
  have h2 := H.lb
  simp only [hashCells, List.setIfInBounds_toArray, List.cons_append, List.set_cons_succ, List.append_assoc]
  rw [List.set_append_right _ _ (by simp; omega), List.set_append_right _ _ (by simp; omega)]
  simp [h1, h2]
theorem HashRaw.stay {w w' : World} {b : Nat} {h buf : List Nat} {n count : Nat} {S : Nat → Prop} (H : HashRaw w b h buf n count) (hU : Upd S w w') (hb : ¬ S b) : HashRaw w' b h buf n count :=
  ⟨H.lh, H.lb, H.sh, H.sb, hU.at H.cells hb⟩
theorem HashRaw.drew {w : World} {b : Nat} {h buf : List Nat} {n count : Nat} (H : HashRaw w b h buf n count) : HashRaw w.drew b h buf n count := ⟨H.lh, H.lb, H.sh, H.sb, H.cells⟩
/-- The words, added up to k. -/
def addTo (h V : List Nat) (k : Nat) : List Nat := (List.range 8).map fun i => if i < k then (h.getD i 0 + V.getD i 0) % M32 else h.getD i 0
theorem addTo_zero {h V : List Nat} (hl : h.length = 8) : addTo h V 0 = h := by
  match h, hl with
  | [a, b, c, d, e, f, g, i], _ => simp [addTo, List.range, List.range.loop]
theorem addTo_full (h V : List Nat) : addTo h V 8 = (List.range 8).map fun i => (h.getD i 0 + V.getD i 0) % M32 := by
  unfold addTo
  refine List.map_congr_left fun i hi => ?_
  rw [if_pos (List.mem_range.1 hi)]
theorem addTo_get (h V : List Nat) {k : Nat} (hk : k < 8) : (addTo h V k).getD k 0 = h.getD k 0 := by simp [addTo, List.getD, hk]
theorem addTo_set (h V : List Nat) (k : Nat) : (addTo h V k).set k ((h.getD k 0 + V.getD k 0) % M32) = addTo h V (k + 1) := by
  apply List.ext_getElem
  · simp [addTo]
  · intro j h1 h2
    simp only [List.getElem_set, addTo, List.getElem_map, List.getElem_range]
    by_cases hj : k = j
    · subst hj; simp
    · rw [if_neg hj]
      by_cases h3 : j < k
      · rw [if_pos h3, if_pos (by omega)]
      · rw [if_neg h3, if_neg (by omega)]
/-- An array of words at a block. -/
def RowU (w : World) (b t : Nat) (l : List Nat) : Prop := w.heap[b]? = some (.cells (u32s l) t (0, 0))
theorem RowU.cell {w : World} {b t : Nat} {l : List Nat} (h : RowU w b t l) {i x : Nat} (hi : l[i]? = some x) : w.cell? ⟨b, i, none⟩ = some (.int .u32 (x : Int)) := by
  rw [cell_of_row _ _ _ _ _ _ h]; simp [u32s, hi]
theorem RowU.frozen {w : World} {b t : Nat} {l : List Nat} (h : RowU w b t l) (i : Nat) : w.frozen? ⟨b, i, none⟩ = false := frozen_of_row _ _ _ _ _ h
theorem RowU.set {w : World} {b t : Nat} {l : List Nat} (h : RowU w b t l) (i x : Nat) : RowU (w.setCell ⟨b, i, none⟩ (.int .u32 (x : Int))) b t (l.set i x) := by
  unfold RowU
  rw [heap_setCell_same _ _ _ _ _ _ h]
  simp [u32s, List.map_set]
theorem RowU.other {w w' : World} {b t : Nat} {l : List Nat} (h : RowU w b t l) (e : w'.heap[b]? = w.heap[b]?) : RowU w' b t l := e.trans h

theorem sprTo_get0 (b : Nat → Nat) {k j : Nat} (hj : j < 64) (hk : k ≤ j) : (sprTo b k)[j]? = some 0 := by
  simp [sprTo, hj, Nat.not_lt.2 hk]
theorem sprTo_first (b : Nat → Nat) : u32s (sprTo b 0) = (Array.replicate 64 (Value.int .u32 0)) := by
  rw [sprTo_zero]; rfl

theorem cells8 {h : List Nat} (hl : h.length = 8) : u32s h = #[Value.int .u32 (h[0]?.getD 0 : Nat), .int .u32 (h[1]?.getD 0 : Nat), .int .u32 (h[2]?.getD 0 : Nat), .int .u32 (h[3]?.getD 0 : Nat), .int .u32 (h[4]?.getD 0 : Nat), .int .u32 (h[5]?.getD 0 : Nat), .int .u32 (h[6]?.getD 0 : Nat), .int .u32 (h[7]?.getD 0 : Nat)] := by
  match h, hl with
  | [a, b, c, d, e, f, g, i], _ => rfl
theorem RowU.src {w : World} {b t : Nat} {l : List Nat} (h : RowU w b t l) (n j : Nat) (v : Value) (hj : (u32s (l.take n)).toList[j]? = some v) : w.cell? (Addr.add ⟨b, 0, none⟩ j) = some v := by
  rw [Addr.add_lit, Nat.zero_add, cell_of_row _ _ _ _ _ _ h]
  simp only [u32s, List.map_take] at hj ⊢
  rw [List.getElem?_take] at hj
  split at hj
  · simpa using hj
  · cases hj
theorem u32s_one (l : List Nat) : ∀ v ∈ (u32s l).toList, v.oneCell' = true := by
  intro v hv
  simp only [u32s, List.mem_map] at hv
  obtain ⟨x, _, rfl⟩ := hv
  rfl
theorem list8 {l : List Nat} (hl : l.length = 8) : l = [l.getD 0 0, l.getD 1 0, l.getD 2 0, l.getD 3 0, l.getD 4 0, l.getD 5 0, l.getD 6 0, l.getD 7 0] := by
  match l, hl with
  | [a, b, c, d, e, f, g, i], _ => rfl
theorem walk_t1 (a s c k w : Nat) : (((a : Int) + (s : Int) + (c : Int) + (k : Int)) % 4294967296 + (w : Int)) % 4294967296 = (((a + s + c + k + w) % M32 : Nat) : Int) := by unfold M32; omega
theorem walk_t2 (a b : Nat) : ((a : Int) + (b : Int)) % 4294967296 = (((a + b) % M32 : Nat) : Int) := by unfold M32; omega
theorem plain32 : Tryd.prog.plainKey 34 = true := by kernel_rfl
theorem size32 : (Tryd.prog.info? 34).map (·.size) = some 1 := by kernel_rfl
theorem shaK_get {k : Nat} (hk : k < 64) : (u32s shaK)[k]? = some (.int .u32 (shaK.getD k 0 : Nat)) := by
  have hl : shaK.length = 64 := rfl
  simp [u32s, List.getD, hl, hk]

set_option maxRecDepth 100000 in
set_option maxHeartbeats 1000000 in
theorem take_any (w : World) (b : Nat) (h buf : List Nat) (n count : Nat) (H : HashRaw w b h buf n count) :
    Calls Tryd.prog 93 #[.pointer (some ⟨b, 0, none⟩)] w fun e w' => e = .returned (.tuple #[]) ∧ HashRaw w' b (press h (byt buf)) buf 0 count ∧ Upd (fun i => i = b) w w' := by
  have g := fun (x : World) (k : Nat) (hk : k + 4 ≤ 64) (hx : HashRaw x b h buf n count) => get32 x b 9 64 64 k (byt buf) hk (Nat.le_refl _) (by omega) (byt_lt H.sb) (fun i hi => hx.cb i hi)
  replace g := Lib.hid g
  replace H := Lib.hid H
  go_enter Tryd.func93, Tryd.ntmps93
  go_wp2_with fail
  go_loopw [17] (fun i wr => ∃ k : Nat, k ≤ 16 ∧ i = .int .i64 k ∧ RowU wr w.heap.size 159 (sprTo (byt buf) k) ∧ Below w.heap.size w wr) (fun i _ => 16 - (intOf i).toNat)
  case atStart =>
    refine ⟨0, Nat.zero_le _, rfl, ?_, (Below.refl _ _).alloc (Nat.le_refl _) _⟩
    unfold RowU
    rw [heap_alloc_new, sprTo_first]
    rfl
  case round =>
    obtain ⟨k, hk, rfl, hrow, hB⟩ := hrel
    by_cases hlt : k < 16
    · have gk := g.out wr (4 * k) (by omega) (H.out.below hB)
      rw [← spr_head _ hlt] at gk
      replace gk := Lib.hid gk
      have cw := hrow.cell (sprTo_get0 (byt buf) (show k < 64 by omega) (Nat.le_refl k))
      have fw := hrow.frozen k
      have nx := hrow.set k (spr (byt buf) k)
      rw [sprTo_set] at nx
      have nB := hB.setCell (p := ⟨w.heap.size, k, none⟩) (Nat.le_refl _) (.int .u32 (spr (byt buf) k : Int))
      replace nx := Lib.hid nx
      replace nB := Lib.hid nB
      replace hrow := Lib.hid hrow
      replace hB := Lib.hid hB
      go_wp2_with fail
      refine gk.out.mono ?_
      rintro e w2 ⟨rfl, rfl⟩
      go_wp2_with fail
      go_roundw
      case rel => exact ⟨k + 1, by omega, by go_num, nx.out, nB.out⟩
      case measure => simp [intOf]; omega
    · obtain rfl : k = 16 := by omega
      obtain ⟨wo, rfl⟩ : ∃ wo : World, wo = wr := ⟨_, rfl⟩
      simp only [show ((16 : Nat) : Int) = 16 from rfl]
      replace hrow := Lib.hid hrow
      replace hB := Lib.hid hB
      go_wp2_with fail
      go_loopw [4] (fun i wr => ∃ k : Nat, 16 ≤ k ∧ k ≤ 64 ∧ i = .int .i64 k ∧ RowU wr w.heap.size 159 (sprTo (byt buf) k) ∧ Below w.heap.size w wr) (fun i _ => 64 - (intOf i).toNat)
      case atStart => exact ⟨16, Nat.le_refl _, by omega, rfl, hrow.out, hB.out⟩
      case round =>
        obtain ⟨k, hk1, hk, rfl, hrow, hB⟩ := hrel
        by_cases hlt : k < 64
        · have cw := hrow.cell (sprTo_get0 (byt buf) hlt (Nat.le_refl k))
          have fw := hrow.frozen k
          have k15 := hrow.cell (sprTo_get (byt buf) (show k - 15 < 64 by omega) (show k - 15 < k by omega))
          have k2 := hrow.cell (sprTo_get (byt buf) (show k - 2 < 64 by omega) (show k - 2 < k by omega))
          have k16 := hrow.cell (sprTo_get (byt buf) (show k - 16 < 64 by omega) (show k - 16 < k by omega))
          have k7 := hrow.cell (sprTo_get (byt buf) (show k - 7 < 64 by omega) (show k - 7 < k by omega))
          have es := spr_next (byt buf) hk1 hlt
          have nx := hrow.set k (spr (byt buf) k)
          rw [sprTo_set] at nx
          have nB := hB.setCell (p := ⟨w.heap.size, k, none⟩) (Nat.le_refl _) (.int .u32 (spr (byt buf) k : Int))
          have lt := spr_lt (byt_lt H.out.sb)
          have l1 := lt (k - 15)
          have l2 := lt (k - 2)
          generalize spr (byt buf) (k - 15) = p at k15 es l1
          generalize spr (byt buf) (k - 2) = q at k2 es l2
          generalize spr (byt buf) (k - 16) = a at k16 es
          generalize spr (byt buf) (k - 7) = c at k7 es
          generalize spr (byt buf) k = r at es nx nB
          have e0 := walk_sig0 l1
          have e1 := walk_sig1 l2
          have t7 := Lib.hid (fun x => sturn_any p 7 x l1 (by omega) (by omega))
          have t18 := Lib.hid (fun x => sturn_any p 18 x l1 (by omega) (by omega))
          have t17 := Lib.hid (fun x => sturn_any q 17 x l2 (by omega) (by omega))
          have t19 := Lib.hid (fun x => sturn_any q 19 x l2 (by omega) (by omega))
          replace l1 := Lib.hid l1
          replace l2 := Lib.hid l2
          replace es := Lib.hid es
          replace nx := Lib.hid nx
          replace nB := Lib.hid nB
          replace hrow := Lib.hid hrow
          replace hB := Lib.hid hB
          replace lt := Lib.hid lt
          go_wp2_with fail
          go_quiet (fail)
          go_wp2_with fail
          refine (t7.out _).mono ?_
          rintro e w2 ⟨rfl, rfl⟩
          go_wp2_with fail
          refine (t18.out _).mono ?_
          rintro e w2 ⟨rfl, rfl⟩
          go_wp2_with fail
          refine (t17.out _).mono ?_
          rintro e w2 ⟨rfl, rfl⟩
          go_wp2_with fail
          refine (t19.out _).mono ?_
          rintro e w2 ⟨rfl, rfl⟩
          go_wp2_with fail
          go_region
          go_wp2_with fail
          go_roundw
          case rel =>
            refine ⟨k + 1, by omega, by omega, by go_num, ?_, ?_⟩
            · rw [show (((a : Int) + (sig0 p : Int) + (c : Int) + (sig1 q : Int)) % 4294967296) = (r : Int) by rw [es.out]; unfold M32; omega]
              exact nx.out
            · rw [show (((a : Int) + (sig0 p : Int) + (c : Int) + (sig1 q : Int)) % 4294967296) = (r : Int) by rw [es.out]; unfold M32; omega]
              exact ⟨nB.out.os, nB.out.tape, nB.out.output, nB.out.size, nB.out.block⟩
          case measure => simp [intOf]; omega
        · obtain rfl : k = 64 := by omega
          obtain ⟨wp, rfl⟩ : ∃ wp : World, wp = wr := ⟨_, rfl⟩
          simp only [show ((64 : Nat) : Int) = 64 from rfl]
          rw [sprTo_full] at hrow
          have H1 := H.out.below hB
          have ch0 := H1.ch 0 (by omega)
          have ch1 := H1.ch 1 (by omega)
          have ch2 := H1.ch 2 (by omega)
          have ch3 := H1.ch 3 (by omega)
          have ch4 := H1.ch 4 (by omega)
          have ch5 := H1.ch 5 (by omega)
          have ch6 := H1.ch 6 (by omega)
          have ch7 := H1.ch 7 (by omega)
          have hbl := lt_of_block H.out.cells
          replace H1 := Lib.hid H1
          replace hrow := Lib.hid hrow
          replace hB := Lib.hid hB
          go_wp2_with fail
          obtain ⟨wa, hwa⟩ : ∃ wa, wa = wp.alloc (.cells (u32s h) 153) := ⟨_, rfl⟩
          have hB1 : Below w.heap.size w wa := by rw [hwa]; exact hB.out.alloc hB.out.size _
          have hs1 := hB.out.size
          have r1 : RowU wa w.heap.size 159 (spread (byt buf)) := by
            refine hrow.out.other ?_
            rw [hwa, heap_alloc_old (h := lt_of_block hrow.out)]
          have r2 : RowU wa wp.heap.size 153 h := by unfold RowU; rw [hwa, heap_alloc_new]
          have hlt1 := lt_of_block hrow.out
          rw [← cells8 H.out.lh, ← hwa]
          replace hwa := Lib.hid hwa
          replace hB1 := Lib.hid hB1
          replace r1 := Lib.hid r1
          replace r2 := Lib.hid r2
          refine (numbers_any wa).mono ?_
          rintro e wn ⟨rfl, hBn⟩
          have start : RowU wn wp.heap.size 153 (roundsTo h (spread (byt buf)) 0) ∧ RowU wn w.heap.size 159 (spread (byt buf)) ∧ Below w.heap.size w wn :=
            ⟨r2.out.other (hBn.block _ (lt_of_block r2.out)), r1.out.other (hBn.block _ (lt_of_block r1.out)), hB1.out.trans (hBn.mono hB1.out.size)⟩
          replace start := Lib.hid start
          clear hBn
          go_wp2_with fail
          go_loopw [81] (fun i wr => ∃ k : Nat, k ≤ 64 ∧ i = .int .i64 k ∧ RowU wr wp.heap.size 153 (roundsTo h (spread (byt buf)) k) ∧ RowU wr w.heap.size 159 (spread (byt buf)) ∧ Below w.heap.size w wr) (fun i _ => 64 - (intOf i).toNat)
          case atStart => exact ⟨0, Nat.zero_le _, rfl, start.out⟩
          case round =>
            obtain ⟨k, hk, rfl, hv, hw, hB⟩ := hrel
            by_cases hlt : k < 64
            · have hidx := fun x => run_index_row (P := Tryd.prog) x 159 34 64 (u32s shaK) .i64 k (.int .u32 (shaK.getD k 0 : Nat)) Tryd.underlying159 plain32 size32 hlt (shaK_get hlt)
              have lV := length_roundsTo h (spread (byt buf)) H.out.lh k
              have sV : Small (roundsTo h (spread (byt buf)) k) := small_roundsTo H.out.sh k
              have hcell : ∀ i, i < 8 → wr.cell? ⟨wp.heap.size, i, none⟩ = some (.int .u32 ((roundsTo h (spread (byt buf)) k).getD i 0 : Nat)) := fun i hi => hv.cell (by simp [List.getD, lV, hi])
              have cwk := hw.cell (i := k) (x := (spread (byt buf)).getD k 0) (by simp [List.getD, length_spread, hlt])
              have c0 := hcell 0 (by omega)
              have c1 := hcell 1 (by omega)
              have c2 := hcell 2 (by omega)
              have c4 := hcell 4 (by omega)
              have c5 := hcell 5 (by omega)
              have c6 := hcell 6 (by omega)
              have c7 := hcell 7 (by omega)
              have l0 := sV.get 0
              have l1 := sV.get 1
              have l2 := sV.get 2
              have l4 := sV.get 4
              have l5 := sV.get 5
              have l6 := sV.get 6
              clear hcell
              have er : roundsTo h (spread (byt buf)) (k + 1) = round (roundsTo h (spread (byt buf)) k) (shaK.getD k 0) ((spread (byt buf)).getD k 0) := rfl
              generalize roundsTo h (spread (byt buf)) k = V at *
              generalize shaK.getD k 0 = kk at hidx er
              generalize (spread (byt buf)).getD k 0 = ww at cwk er
              generalize hx0 : V.getD 0 0 = x0 at *
              generalize hx1 : V.getD 1 0 = x1 at *
              generalize hx2 : V.getD 2 0 = x2 at *
              generalize hx4 : V.getD 4 0 = x4 at *
              generalize hx5 : V.getD 5 0 = x5 at *
              generalize hx6 : V.getD 6 0 = x6 at *
              generalize hx7 : V.getD 7 0 = x7 at *
              have n1 := walk_not l4
              have n2 := walk_not' l4
              have a1 := walk_and l4 l5
              have a2 := walk_and (Nat.lt_of_le_of_lt (Nat.sub_le 4294967295 x4) (show 4294967295 < M32 by decide)) l6
              have a3 := walk_xor (and_lt (b := x5) l4) (and_lt (b := x6) (Nat.lt_of_le_of_lt (Nat.sub_le 4294967295 x4) (show 4294967295 < M32 by decide)))
              have b1 := walk_and l0 l1
              have b2 := walk_and l0 l2
              have b3 := walk_and l1 l2
              have b4 := walk_xor (and_lt (b := x1) l0) (and_lt (b := x2) l0)
              have b5 := walk_xor (xor_lt (and_lt (b := x1) l0) (and_lt (b := x2) l0)) (and_lt (b := x2) l1)
              have r6 := rotr_lt (n := 6) l4 (by omega)
              have r11 := rotr_lt (n := 11) l4 (by omega)
              have r25 := rotr_lt (n := 25) l4 (by omega)
              have r2 := rotr_lt (n := 2) l0 (by omega)
              have r13 := rotr_lt (n := 13) l0 (by omega)
              have r22 := rotr_lt (n := 22) l0 (by omega)
              have s1 := walk_xor r6 r11
              have s2 := walk_xor (xor_lt r6 r11) r25
              have s3 := walk_xor r2 r13
              have s4 := walk_xor (xor_lt r2 r13) r22
              have q := fun (x : Nat) (hx : x < M32) (n : Nat) (h1 : 1 ≤ n) (h2 : n ≤ 31) (y : World) => (sturn_any x n y hx h1 h2).mono (R' := fun e w' => e = .returned (.int .u32 (rotr x n)) ∧ w' = y) fun _ _ ⟨a, b⟩ => ⟨a, b.symm⟩
              have t6 := Lib.hid (q x4 l4 6 (by omega) (by omega))
              have t11 := Lib.hid (q x4 l4 11 (by omega) (by omega))
              have t25 := Lib.hid (q x4 l4 25 (by omega) (by omega))
              have t2 := Lib.hid (q x0 l0 2 (by omega) (by omega))
              have t13 := Lib.hid (q x0 l0 13 (by omega) (by omega))
              have t22 := Lib.hid (q x0 l0 22 (by omega) (by omega))
              clear q l0 l1 l2 l4 l5 l6 r6 r11 r25 r2 r13 r22
              replace hx0 := Lib.hid hx0
              replace hx1 := Lib.hid hx1
              replace hx2 := Lib.hid hx2
              replace hx4 := Lib.hid hx4
              replace hx5 := Lib.hid hx5
              replace hx6 := Lib.hid hx6
              replace hx7 := Lib.hid hx7
              replace hv := Lib.hid hv
              replace hw := Lib.hid hw
              replace hB := Lib.hid hB
              replace er := Lib.hid er
              replace sV := Lib.hid sV
              replace lV := Lib.hid lV
              go_wp2_with fail
              go_quiet (fail)
              go_wp2_with fail
              obtain ⟨wq, hwq⟩ : ∃ x, x = wr.drewN nq := ⟨_, rfl⟩
              have hvq : RowU wq wp.heap.size 153 V := by rw [hwq]; exact hv.out
              have hwq' : RowU wq w.heap.size 159 (spread (byt buf)) := by rw [hwq]; exact hw.out
              have hBq : Below w.heap.size w wq := by rw [hwq]; exact ⟨hB.out.os, hB.out.tape, hB.out.output, hB.out.size, hB.out.block⟩
              have cq : ∀ a, wq.cell? a = wr.cell? a := fun a => by rw [hwq]; rfl
              rw [← cq] at c1 c2 c5 c6 c7 cwk
              clear cq
              rw [← hwq]
              clear hwq c0 c4
              replace hvq := Lib.hid hvq
              replace hwq' := Lib.hid hwq'
              replace hBq := Lib.hid hBq
              go_quiet (first | (go_at_call_of 97 (6 : Int); exact Calls.quiet_of_same (t6.out _)) | (go_at_call_of 97 (11 : Int); exact Calls.quiet_of_same (t11.out _)) | (go_at_call_of 97 (25 : Int); exact Calls.quiet_of_same (t25.out _)))
              go_wp2_with fail
              obtain ⟨w3, hw3⟩ : ∃ x, x = wq.drewN nq := ⟨_, rfl⟩
              have hv3 : RowU w3 wp.heap.size 153 V := by rw [hw3]; exact hvq.out
              have hw3' : RowU w3 w.heap.size 159 (spread (byt buf)) := by rw [hw3]; exact hwq'.out
              have hB3 : Below w.heap.size w w3 := by rw [hw3]; exact ⟨hBq.out.os, hBq.out.tape, hBq.out.output, hBq.out.size, hBq.out.block⟩
              have cq : ∀ a, w3.cell? a = wq.cell? a := fun a => by rw [hw3]; rfl
              rw [← cq] at c1 c2
              clear cq
              rw [← hw3]
              clear hw3
              replace hv3 := Lib.hid hv3
              replace hw3' := Lib.hid hw3'
              replace hB3 := Lib.hid hB3
              go_quiet (first | (go_at_call_of 97 (2 : Int); exact Calls.quiet_of_same (t2.out _)) | (go_at_call_of 97 (13 : Int); exact Calls.quiet_of_same (t13.out _)) | (go_at_call_of 97 (22 : Int); exact Calls.quiet_of_same (t22.out _)))
              go_wp2_with fail
              rw [walk_t1 x7 (rotr x4 6 ^^^ rotr x4 11 ^^^ rotr x4 25) (x4 &&& x5 ^^^ 4294967295 - x4 &&& x6) kk ww, walk_t2 (rotr x0 2 ^^^ rotr x0 13 ^^^ rotr x0 22) (x0 &&& x1 ^^^ x0 &&& x2 ^^^ x1 &&& x2)]
              obtain ⟨t1, ht1⟩ : ∃ t1, t1 = (x7 + (rotr x4 6 ^^^ rotr x4 11 ^^^ rotr x4 25) + (x4 &&& x5 ^^^ 4294967295 - x4 &&& x6) + kk + ww) % M32 := ⟨_, rfl⟩
              obtain ⟨u2, hu2⟩ : ∃ u2, u2 = ((rotr x0 2 ^^^ rotr x0 13 ^^^ rotr x0 22) + (x0 &&& x1 ^^^ x0 &&& x2 ^^^ x1 &&& x2)) % M32 := ⟨_, rfl⟩
              rw [← ht1, ← hu2]
              have eV : V = [x0, x1, x2, V.getD 3 0, x4, x5, x6, x7] := by
                rw [← hx0.out, ← hx1.out, ← hx2.out, ← hx4.out, ← hx5.out, ← hx6.out, ← hx7.out]
                exact list8 lV.out
              generalize hx3 : V.getD 3 0 = x3 at eV
              have er' : roundsTo h (spread (byt buf)) (k + 1) = [(t1 + u2) % M32, x0, x1, x2, (x3 + t1) % M32, x4, x5, x6] := by
                rw [er.out, ht1, hu2]
                unfold round
                rw [hx0.out, hx1.out, hx2.out, hx3, hx4.out, hx5.out, hx6.out, hx7.out]
                rfl
              replace ht1 := Lib.hid ht1
              replace hu2 := Lib.hid hu2
              replace eV := Lib.hid eV
              replace er' := Lib.hid er'
              clear hx3 n1 n2 a1 a2 a3 b1 b2 b3 b4 b5 s1 s2 s3 s4 t6 t11 t25 t2 t13 t22 c1 c2 c5 c6 c7 cwk
              go_still_tail 2, (by kernel_rfl)
              refine wpList_copy_row rfl (.tmp 141) (.tmp 142) 33 33 rfl 34 Tryd.underlying33 size32 wp.heap.size 1 7 7 ⟨wp.heap.size, 0, none⟩ 7 8 rfl rfl (u32s V) 153 (by exact hv3.out) ((u32s (V.take 7)).toList) (by rw [eV.out]; rfl) (fun j v hj => RowU.src hv3.out 7 j v hj) (by rw [eV.out]; simp [u32s]) (u32s_one _) (u32s [x0, x0, x1, x2, x3, x4, x5, x6]) (by rw [eV.out]; rfl) ?_
              intro w4 hw4
              have hv4 : RowU w4 wp.heap.size 153 [x0, x0, x1, x2, x3, x4, x5, x6] := by rw [hw4.out]; exact setRow_heap _ _ _ _ _ _ hv3.out
              have hw4' : RowU w4 w.heap.size 159 (spread (byt buf)) := by
                refine hw3'.out.other ?_
                rw [hw4.out, setRow_other _ _ _ _ (show w.heap.size ≠ wp.heap.size by omega)]
                rfl
              have hB4 : Below w.heap.size w w4 := by
                have hb3 := hB3.out
                have hB5 : Below w.heap.size w ((w3.drewN nq).drew) := ⟨hb3.os, hb3.tape, hb3.output, hb3.size, hb3.block⟩
                rw [hw4.out]; exact below_setRow hB5 (by omega) _
              clear hw4
              obtain ⟨s3, hs3⟩ : ∃ s3, s3 = (x3 + t1) % M32 := ⟨_, rfl⟩
              obtain ⟨s0, hs0⟩ : ∃ s0, s0 = (t1 + u2) % M32 := ⟨_, rfl⟩
              have m1 := walk_t2 x3 t1
              have m2 := walk_t2 t1 u2
              rw [← hs3] at m1
              rw [← hs0] at m2
              replace er' := er'.out
              rw [← hs3, ← hs0] at er'
              have c4 := hv4.cell (i := 4) (x := x3) rfl
              have c0 := hv4.cell (i := 0) (x := x0) rfl
              have f4 := hv4.frozen 4
              have f0 := hv4.frozen 0
              have nx := (hv4.set 4 s3).set 0 s0
              have nw := hw4'.other (w' := (w4.setCell ⟨wp.heap.size, 4, none⟩ (.int .u32 (s3 : Int))).setCell ⟨wp.heap.size, 0, none⟩ (.int .u32 (s0 : Int))) (by
                rw [heap_setCell_other _ _ _ _ (show w.heap.size ≠ wp.heap.size by omega), heap_setCell_other _ _ _ _ (show w.heap.size ≠ wp.heap.size by omega)])
              have nB := (hB4.setCell (p := ⟨wp.heap.size, 4, none⟩) (show w.heap.size ≤ wp.heap.size by omega) (.int .u32 (s3 : Int))).setCell (p := ⟨wp.heap.size, 0, none⟩) (show w.heap.size ≤ wp.heap.size by omega) (.int .u32 (s0 : Int))
              clear hs3 hs0 hv4 hw4' hB4
              replace er' := Lib.hid er'
              replace nx := Lib.hid nx
              replace nw := Lib.hid nw
              replace nB := Lib.hid nB
              go_wp2_with fail
              go_roundw
              case rel =>
                refine ⟨k + 1, by omega, by go_num, ?_, nw.out, nB.out⟩
                rw [er'.out]
                exact nx.out
              case measure => simp [intOf]; omega
            · obtain rfl : k = 64 := by omega
              clear start r1 r2 hB1 hrow H1 ch0 ch1 ch2 ch3 ch4 ch5 ch6 ch7 g
              obtain ⟨wz, rfl⟩ : ∃ wz : World, wz = wr := ⟨_, rfl⟩
              simp only [show ((64 : Nat) : Int) = 64 from rfl]
              have lV := length_roundsTo h (spread (byt buf)) H.out.lh 64
              have eP : press h (byt buf) = addTo h (roundsTo h (spread (byt buf)) 64) 8 := (addTo_full _ _).symm
              generalize roundsTo h (spread (byt buf)) 64 = V at *
              have start : HashRaw wz b (addTo h V 0) buf n count ∧ RowU wz wp.heap.size 153 V ∧ Upd (fun i => i = b) w wz :=
                ⟨by rw [addTo_zero H.out.lh]; exact H.out.below hB, hv, Upd.of_below hB⟩
              replace start := Lib.hid start
              replace hv := Lib.hid hv
              replace hw := Lib.hid hw
              replace hB := Lib.hid hB
              replace eP := Lib.hid eP
              replace lV := Lib.hid lV
              go_wp2_with fail
              go_loopw [154] (fun i wr => ∃ k : Nat, k ≤ 8 ∧ i = .int .i64 k ∧ HashRaw wr b (addTo h V k) buf n count ∧ RowU wr wp.heap.size 153 V ∧ Upd (fun i => i = b) w wr) (fun i _ => 8 - (intOf i).toNat)
              case atStart => exact ⟨0, Nat.zero_le _, rfl, start.out⟩
              case round =>
                obtain ⟨k, hk, rfl, hH, hv, hU⟩ := hrel
                by_cases hlt : k < 8
                · have ca := hH.ch k hlt
                  have cv := hv.cell (i := k) (x := V.getD k 0) (by simp [List.getD, lV.out, hlt])
                  rw [addTo_get h V hlt] at ca
                  have fa := hH.frozen (1 + k)
                  have m1 := walk_t2 (h.getD k 0) (V.getD k 0)
                  have nx := hH.setH hlt ((h.getD k 0 + V.getD k 0) % M32) (Nat.mod_lt _ (by decide))
                  rw [addTo_set] at nx
                  have nv := hv.other (w' := wr.setCell ⟨b, 1 + k, none⟩ (.int .u32 (((h.getD k 0 + V.getD k 0) % M32 : Nat) : Int))) (heap_setCell_other _ _ _ _ (show wp.heap.size ≠ b by omega))
                  have nU := hU.setCell ⟨b, 1 + k, none⟩ (.int .u32 (((h.getD k 0 + V.getD k 0) % M32 : Nat) : Int)) (fun _ => rfl)
                  generalize (h.getD k 0 + V.getD k 0) % M32 = s at *
                  generalize h.getD k 0 = p at ca m1
                  generalize V.getD k 0 = q at cv m1
                  replace nx := Lib.hid nx
                  replace nv := Lib.hid nv
                  replace nU := Lib.hid nU
                  replace hH := Lib.hid hH
                  replace hv := Lib.hid hv
                  replace hU := Lib.hid hU
                  go_wp2_with fail
                  go_region
                  go_wp2_with fail
                  go_roundw
                  case rel => exact ⟨k + 1, by omega, by go_num, nx.out.drew, nv.out, nU.out.drew⟩
                  case measure => simp [intOf]; omega
                · obtain rfl : k = 8 := by omega
                  simp only [show ((8 : Nat) : Int) = 8 from rfl]
                  rw [← eP.out] at hH
                  have cn := hH.cn
                  have fn := hH.frozen 73
                  have nx := hH.setN 0
                  have nU := hU.setCell ⟨b, 73, none⟩ (.int .i64 ((0 : Nat) : Int)) (fun _ => rfl)
                  simp only [Int.natCast_zero] at nx nU
                  replace nx := Lib.hid nx
                  replace nU := Lib.hid nU
                  replace hH := Lib.hid hH
                  replace hv := Lib.hid hv
                  replace hU := Lib.hid hU
                  go_wp2_with fail
                  go_end0
                  exact ⟨rfl, nx.out, nU.out⟩

end Go.Proofs.YtjhfoddhpmmjoaaDoor
