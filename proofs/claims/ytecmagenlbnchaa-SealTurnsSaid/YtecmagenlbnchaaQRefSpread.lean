/-
  The reference of layer 2: a block's sixty-four words. Conditions: the block has 64 bytes.
-/
import Derived.Test.YtecmagenlbnchaaQRefSha
import Derived.Test.YtecmagenlbnchaaQCut
import Derived.Deep.RegionLaw
namespace Go.Proofs.Ytecmagenlbnchaa
set_option maxRecDepth 100000
open Go.RowKit

def u32l (l : List Nat) : List Value := l.map fun (n : Nat) => Value.int .u32 (n : Int)
theorem u32l_append (a b : List Nat) : u32l (a ++ b) = u32l a ++ u32l b := by simp [u32l]
theorem u32l_one (l : List Nat) : ∀ v ∈ u32l l, v.oneCell' = true := by
  intro v hv
  obtain ⟨x, _, rfl⟩ := List.mem_map.1 hv
  rfl
/-- A part of a slice of bytes. -/
theorem run_part (ao : Option Addr) (len cap lo hi : Nat) (h1 : lo ≤ hi) (h2 : hi ≤ len) (h3 : len ≤ cap) (hn : ao = none → cap = 0) : ∃ ao' : Option Addr,
    (∀ x, (Instr.slice 25 (.slice ao len cap) (some (.int .i64 (lo : Int))) (some (.int .i64 (hi : Int))) none).run Try.prog x = .ok (.slice ao' (hi - lo) (cap - lo)) x) ∧
    (∀ w s, BytesAt w ao len s → BytesAt w ao' (hi - lo) (fun j => s (lo + j))) ∧ (ao' = none → cap - lo = 0) := by
  have hu : Try.prog.underlying 25 = some (.slice (Try.prog.elem 25)) := by rw [Try.underlying25]; rfl
  refine ⟨if cap = lo then ao else ao.map (·.add lo), fun x => ?_, fun w s hb j hj => ?_, fun h => ?_⟩
  · rw [run_slice_lh (P := Try.prog) x 25 _ len cap hu .i64 .i64 lo hi (by omega) (by omega) (by omega)]
    have hs : (sizeOf (Try.prog.elem 25)).run Try.prog x = .ok 1 x := by
      obtain ⟨i, hi, h1⟩ : ∃ i, Try.prog.info? (Try.prog.elem 25) = some i ∧ i.size = 1 := by
        have h1 : (Try.prog.info? (Try.prog.elem 25)).map (·.size) = some 1 := by kernel_rfl
        cases hq : Try.prog.info? (Try.prog.elem 25) with
        | none => simp [hq] at h1
        | some i => exact ⟨i, rfl, by simpa [hq] using h1⟩
      simp [sizeOf, typeInfo, hi, h1]
    rw [hs]
    simp only [Result.andThen, sliced, Int.toNat_natCast, Nat.mul_one]
  · obtain ⟨hb1, ob, oo, rfl, hc⟩ := hb (lo + j) (by omega)
    refine ⟨hb1, ob, oo + lo, ?_, by rw [Nat.add_assoc]; exact hc⟩
    rw [if_neg (by omega)]
    simp [Addr.add_lit]
  · by_cases e : cap = lo
    · omega
    · rw [if_neg e] at h
      cases ao with
      | none => have := hn rfl; omega
      | some a => simp at h
theorem byt_bytesOf_fun (s : Nat → Nat) (n : Nat) {w : World} {ao : Option Addr} (h : BytesAt w ao n s) : BytesAt w ao n (byt (bytesOf s n)) := fun i hi => by
  obtain ⟨h1, h2⟩ := h i hi
  rw [byt_bytesOf s hi]; exact ⟨h1, h2⟩

theorem be32_bnum (s : Nat → Nat) (k : Nat) : bnum (byt (bytesOf (fun j => s (k + j)) 4)) 4 = be32 s k := by
  have e : ∀ i, i < 4 → byt (bytesOf (fun j => s (k + j)) 4) i = s (k + i) := fun i hi => byt_bytesOf _ hi
  simp only [bnum, e 0 (by omega), e 1 (by omega), e 2 (by omega), e 3 (by omega), be32, Nat.add_zero]
  omega

theorem getD_last (l : List Nat) (x n : Nat) (h : l.length = n) : (l ++ [x]).getD n 0 = x := by
  subst h; simp [List.getD]
theorem spreadTo_next (b : Nat → Nat) (k : Nat) (h2 : 16 + k < 64) : spreadTo b (k + 1) = spreadTo b k ++ [spr b (16 + k)] := by
  have h3 := spr_eq b (j := 16 + k) (k := k + 1) (by omega) (by omega)
  have h5 : spreadTo b (k + 1) = spreadTo b k ++ [snextW (spreadTo b k)] := by rw [spreadTo]
  rw [h5, getD_last _ _ _ (length_spreadTo b k)] at h3
  rw [h5, h3]
theorem spreadTo_grow (b : Nat → Nat) {m : Nat} (h1 : 16 ≤ m) (h2 : m < 64) : u32l (spreadTo b (m + 1 - 16)) = u32l (spreadTo b (m - 16)) ++ [.int .u32 (spr b m : Nat)] := by
  obtain ⟨k, rfl⟩ : ∃ k, m = 16 + k := ⟨m - 16, by omega⟩
  have e1 : 16 + k + 1 - 16 = k + 1 := by omega
  have e2 : 16 + k - 16 = k := by omega
  rw [e1, e2, spreadTo_next b k h2, u32l_append]
  generalize spr b (16 + k) = z
  simp [u32l]

theorem lt_of_cell' {w : World} {a : Addr} {v : Value} (h : w.cell? a = some v) : a.block < w.heap.size := block_lt_of_cell h
theorem cell_alloc_keep {w : World} {a : Addr} {v : Value} (h : w.cell? a = some v) (o : Obj) : (w.drew.alloc o).cell? a = some v :=
  (((Below.refl w.drew.heap.size w.drew).alloc (Nat.le_refl _) o).cell (block_lt_of_cell (w := w.drew) h)).trans h
theorem index_words (g m cp k : Nat) (hk : k < m) : ∀ x, (Instr.indexAt 136 (.slice (some ⟨g, 0, none⟩) m cp) (.int .i64 (k : Int))).run Try.prog x = .ok (.pointer (some ⟨g, k, none⟩)) x := by
  intro x
  have hu : Try.prog.underlying 136 = some (.slice (Try.prog.elem 136)) := by rw [Try.underlying136]; rfl
  rw [run_indexAt_slice (P := Try.prog) x 136 _ m cp .i64 k hu]
  have hs : (sizeOf (Try.prog.elem 136)).run Try.prog x = .ok 1 x := by
    obtain ⟨i, hi, h1⟩ : ∃ i, Try.prog.info? (Try.prog.elem 136) = some i ∧ i.size = 1 := by
      have h1 : (Try.prog.info? (Try.prog.elem 136)).map (·.size) = some 1 := by kernel_rfl
      cases hq : Try.prog.info? (Try.prog.elem 136) with
      | none => simp [hq] at h1
      | some i => exact ⟨i, rfl, by simpa [hq] using h1⟩
    simp [sizeOf, typeInfo, hi, h1]
  simp [hs, hk, Result.andThen, Addr.add_lit]

/-- A list of words of the call's own, not empty. -/
theorem words_form {w : World} {base : Nat} {v : Value} {l : List Nat} (h : Own w base 140 v (u32l l)) (h0 : 0 < l.length) : ∃ g cap, v = .slice (some ⟨g, 0, none⟩) l.length cap ∧ ∀ i x, (u32l l)[i]? = some x → w.cell? ⟨g, i, none⟩ = some x := by
  obtain ⟨ao, cap, e, h1, _, _, _, h4⟩ := h.form
  have hl : (u32l l).length = l.length := by simp [u32l]
  rw [hl] at e
  obtain ⟨x, hx⟩ : ∃ x, (u32l l)[0]? = some x := ⟨(u32l l)[0]'(by omega), by simp⟩
  obtain ⟨g, e2, _, _⟩ := h4 0 x hx
  subst e2
  refine ⟨g, cap, e, fun i y hy => ?_⟩
  obtain ⟨g', e3, hc, _⟩ := h4 i y hy
  cases e3
  exact hc

set_option maxRecDepth 100000 in
theorem ref_spread (w : World) (v : Value) (t : List Nat) (h : TextAt w v t) (ht : t.length = 64) :
    Calls Try.prog 105 #[v] w fun e w' => ∃ v', e = .returned v' ∧ Own w' w.heap.size 140 v' (u32l (spread (byt t))) ∧ Below w.heap.size w w' := by
  have hsb := byt_lt h.small
  obtain ⟨ao, cap, rfl, h1, h2, h3⟩ := h.ex
  rw [ht] at h1 h3
  rw [ht]
  obtain ⟨_, ob, oo, rfl, _⟩ := h3 0 (by omega)
  replace h := Lib.hid h
  replace h3 := Lib.hid h3
  replace hsb := Lib.hid hsb
  go_enter Try.func105, Try.ntmps105
  go_wp2_with fail
  go_loopw [3, 4] (fun o i wr => ∃ k : Nat, k ≤ 16 ∧ i = .int .i64 k ∧ Own wr w.heap.size 140 o (u32l ((List.range k).map fun i => be32 (byt t) (4 * i))) ∧ Below w.heap.size w wr) (fun _ i _ => 16 - (intOf i).toNat)
  case atStart => exact ⟨0, Nat.zero_le _, rfl, Own.nil _ _ _, Below.refl _ _⟩
  case round =>
    obtain ⟨k, hk, rfl, hO, hB⟩ := hrel
    by_cases hlt : k < 16
    · have hpart : BytesAt w (some ⟨ob, oo + 4 * k, none⟩) 4 (fun j => byt t (4 * k + j)) := fun j hj => by
        obtain ⟨hb1, ob', oo', e, hc⟩ := h3.out (4 * k + j) (by omega)
        cases e
        exact ⟨hb1, ob, oo + 4 * k, rfl, by rw [Nat.add_assoc]; exact hc⟩
      have hT : TextAt wr (.slice (some ⟨ob, oo + 4 * k, none⟩) 4 (cap - 4 * k)) (bytesOf (fun j => byt t (4 * k + j)) 4) :=
        ⟨_, cap - 4 * k, by simp; rfl, by simp; omega, fun e => by simp at e, by simpa using byt_bytesOf_fun _ _ (hpart.below hB)⟩
      have nu := ref_number wr _ _ hT (by simp)
      rw [length_bytesOf, be32_bnum] at nu
      have hlt32 : be32 (byt t) (4 * k) < 4294967296 := be32_lt hsb.out (4 * k)
      have elist : u32l ((List.range (k + 1)).map fun i => be32 (byt t) (4 * i)) = u32l ((List.range k).map fun i => be32 (byt t) (4 * i)) ++ [.int .u32 (be32 (byt t) (4 * k) : Nat)] := by
        rw [List.range_succ]; simp [u32l]
      generalize be32 (byt t) (4 * k) = x at *
      have hs := hB.size
      have ho := hO.alloc (.cells #[.int .u32 (x : Int)] 140)
      have hb := hB.alloc hs (.cells #[.int .u32 (x : Int)] 140)
      have hlo : (u32l ((List.range k).map fun i => be32 (byt t) (4 * i))).length = k := by simp [u32l]
      replace nu := Lib.hid nu
      replace hO := Lib.hid hO
      replace hB := Lib.hid hB
      replace ho := Lib.hid ho
      replace hb := Lib.hid hb
      replace hT := Lib.hid hT
      replace hpart := Lib.hid hpart
      replace elist := Lib.hid elist
      replace hlo := Lib.hid hlo
      replace hs := Lib.hid hs
      go_wp2_with fail
      refine nu.out.mono ?_
      rintro e w1 ⟨rfl, rfl⟩
      go_wp2_with (at_builtin; refine wpList_append_x rfl (.tmp 12) (.tmp 22) 136 rfl 140 Try.underlying136 (.int .u32 0) 4 infoU32 rfl (by decide) w.heap.size w u3 (u32l ((List.range k).map fun i => be32 (byt t) (4 * i))) rfl ho.out hb.out (by have := hs.out; simp; omega) (some ⟨wr.heap.size, 0, none⟩) 1 1 [.int .u32 (x : Int)] rfl rfl (fun e => by simp at e) one_cell (by simp [Value.oneCell']) (by rw [hlo.out]; omega) ?_; intro v1 w1 ho1 hB1 hg1 hb1)
      go_roundw
      case rel => exact ⟨k + 1, by omega, by go_num, by rw [elist.out]; exact ho1.out, hB1.out⟩
      case measure => simp [intOf]; omega
    · obtain rfl : k = 16 := by omega
      obtain ⟨wo, rfl⟩ : ∃ wo : World, wo = wr := ⟨_, rfl⟩
      simp only [show ((16 : Nat) : Int) = 16 from rfl]
      have hO0 : Own wo w.heap.size 140 u3 (u32l (spreadTo (byt t) 0)) := hO
      replace hO0 := Lib.hid hO0
      replace hO := Lib.hid hO
      replace hB := Lib.hid hB
      go_wp2_with fail
      go_loopw [3, 5] (fun o i wr => ∃ m : Nat, 16 ≤ m ∧ m ≤ 64 ∧ i = .int .i64 m ∧ Own wr w.heap.size 140 o (u32l (spreadTo (byt t) (m - 16))) ∧ Below w.heap.size w wr) (fun _ i _ => 64 - (intOf i).toNat)
      case atStart => exact ⟨16, by omega, by omega, rfl, hO0.out, hB.out⟩
      case round =>
        obtain ⟨m, hm1, hm, rfl, hO, hB⟩ := hrel
        by_cases hlt : m < 64
        · obtain ⟨g, cp, ev, hcell⟩ := words_form hO (by rw [length_spreadTo]; omega)
          rw [length_spreadTo, show 16 + (m - 16) = m by omega] at ev
          subst ev
          have hat : ∀ j, j < m → wr.cell? ⟨g, j, none⟩ = some (.int .u32 (spr (byt t) j : Nat)) := fun j hj => by
            refine hcell j _ ?_
            have h1 := spr_eq (byt t) (j := j) (k := m - 16) (by omega) (by omega)
            have h2 := length_spreadTo (byt t) (m - 16)
            rw [← h1]
            have h3 : j < (spreadTo (byt t) (m - 16)).length := by omega
            simp [u32l, List.getD, h3]
          have c15 := hat (m - 15) (by omega)
          have c2 := hat (m - 2) (by omega)
          have c16 := hat (m - 16) (by omega)
          have c7 := hat (m - 7) (by omega)
          have es := spr_next (byt t) hm1 hlt
          have elist := spreadTo_grow (byt t) hm1 hlt
          have hlo : (u32l (spreadTo (byt t) (m - 16))).length = m := by simp [u32l, length_spreadTo]; omega
          have lt := spr_lt (byt_lt (h.out.small))
          have l1 := lt (m - 15)
          have l2 := lt (m - 2)
          generalize spr (byt t) (m - 15) = p at c15 es l1
          generalize spr (byt t) (m - 2) = q at c2 es l2
          generalize spr (byt t) (m - 16) = a at c16 es
          generalize spr (byt t) (m - 7) = c at c7 es
          generalize spr (byt t) m = r at es elist
          have e0 := walk_sig0 l1
          have e1 := walk_sig1 l2
          have tq := fun (x : Nat) (hx : x < M32) (n : Nat) (h2 : n ≤ 31) (y : World) => (ref_turned y x n hx h2).mono (R' := fun e w' => e = .returned (.int .u32 (rotr x n)) ∧ w' = y) fun _ _ ⟨a, b⟩ => ⟨a, b.symm⟩
          have t7 := Lib.hid (tq p l1 7 (by omega))
          have t18 := Lib.hid (tq p l1 18 (by omega))
          have t17 := Lib.hid (tq q l2 17 (by omega))
          have t19 := Lib.hid (tq q l2 19 (by omega))
          have m3 := Lib.hid (fun y => (ref_moved y p 3 l1 (by omega)).mono (R' := fun e w' => e = .returned (.int .u32 ((p : Int) / 8)) ∧ w' = y) fun _ _ ⟨a, b⟩ => ⟨by rw [a]; simp, b.symm⟩)
          have m10 := Lib.hid (fun y => (ref_moved y q 10 l2 (by omega)).mono (R' := fun e w' => e = .returned (.int .u32 ((q : Int) / 1024)) ∧ w' = y) fun _ _ ⟨a, b⟩ => ⟨by rw [a]; simp, b.symm⟩)
          have hs := hB.size
          replace l1 := Lib.hid l1
          replace l2 := Lib.hid l2
          replace es := Lib.hid es
          replace elist := Lib.hid elist
          replace hO := Lib.hid hO
          replace hB := Lib.hid hB
          replace hlo := Lib.hid hlo
          replace hs := Lib.hid hs
          clear lt tq hat hcell
          go_wp2_with fail
          go_quiet (first | (go_at_call_of 111 (7 : Int); exact Calls.quiet_of_same (t7.out _)) | (go_at_call_of 111 (18 : Int); exact Calls.quiet_of_same (t18.out _)) | (go_at_call_of 113 (3 : Int); exact Calls.quiet_of_same (m3.out _)))
          go_wp2_with fail
          obtain ⟨wq, hwq⟩ : ∃ x, x = wr.drewN nq := ⟨_, rfl⟩
          have hOq : Own wq w.heap.size 140 (.slice (some ⟨g, 0, none⟩) m cp) (u32l (spreadTo (byt t) (m - 16))) := by rw [hwq]; exact hO.out
          have hBq : Below w.heap.size w wq := by rw [hwq]; exact ⟨hB.out.os, hB.out.tape, hB.out.output, hB.out.size, hB.out.block⟩
          have cq : ∀ a, wq.cell? a = wr.cell? a := fun a => by rw [hwq]; rfl
          rw [← cq] at c2 c16 c7
          rw [← hwq]
          clear hwq cq c15
          replace hOq := Lib.hid hOq
          replace hBq := Lib.hid hBq
          go_quiet (first | (go_at_call_of 111 (17 : Int); exact Calls.quiet_of_same (t17.out _)) | (go_at_call_of 111 (19 : Int); exact Calls.quiet_of_same (t19.out _)) | (go_at_call_of 113 (10 : Int); exact Calls.quiet_of_same (m10.out _)))
          go_wp2_with fail
          obtain ⟨w3, hw3⟩ : ∃ x, x = wq.drewN nq := ⟨_, rfl⟩
          have hO3 : Own w3 w.heap.size 140 (.slice (some ⟨g, 0, none⟩) m cp) (u32l (spreadTo (byt t) (m - 16))) := by rw [hw3]; exact hOq.out
          have hB3 : Below w.heap.size w w3 := by rw [hw3]; exact ⟨hBq.out.os, hBq.out.tape, hBq.out.output, hBq.out.size, hBq.out.block⟩
          have cq : ∀ a, w3.cell? a = wq.cell? a := fun a => by rw [hw3]; rfl
          rw [← cq] at c16 c7
          rw [← hw3]
          clear hw3 cq c2 t7 t18 t17 t19 m3 m10 e0 e1
          have hr : IntKind.u32.wrap (IntKind.u32.wrap (IntKind.u32.wrap ((a : Int) + (c : Int)) + (sig0 p : Int)) + (sig1 q : Int)) = (r : Int) := by
            rw [es.out, IntKind.wrap_u32', IntKind.wrap_u32', IntKind.wrap_u32']; generalize sig0 p = x; generalize sig1 q = y; unfold M32; omega
          generalize sig0 p = x at *
          generalize sig1 q = y at *
          replace hO3 := Lib.hid hO3
          replace hB3 := Lib.hid hB3
          have w16 : IntKind.i64.wrap ((m : Int) - 16) = (m : Int) - 16 := IntWalk.i64_in _ (by omega)
          have x16 := index_words g m cp (m - 16) (by omega)
          rw [Int.natCast_sub hm1] at x16
          have n16 : ((m : Int) - 16).toNat = m - 16 := by omega
          have p16 : (0 : Int) ≤ (m : Int) - 16 := by omega
          have q16 : (m : Int) - 16 < (m : Int) := by omega
          have r16 : (16 : Int) ≤ (m : Int) := by omega
          have n7 : ((m : Int) - 7).toNat = m - 7 := by omega
          have p7 : (0 : Int) ≤ (m : Int) - 7 := by omega
          have q7 : (m : Int) - 7 < (m : Int) := by omega
          have r7 : (7 : Int) ≤ (m : Int) := by omega
          have w7 : IntKind.i64.wrap ((m : Int) - 7) = (m : Int) - 7 := IntWalk.i64_in _ (by omega)
          have x7 := index_words g m cp (m - 7) (by omega)
          rw [Int.natCast_sub (by omega)] at x7
          have hr2 : (((a : Int) + (c : Int) + (x : Int) + (y : Int)) % 4294967296) = (r : Int) := by
            have := hr; rw [IntKind.wrap_u32', IntKind.wrap_u32', IntKind.wrap_u32'] at this; omega
          have hlt3 := lt_of_cell' c16
          have k16 : ∀ o : Obj, (w3.drew.alloc o).cell? ⟨g, m - 16, none⟩ = some (.int .u32 (a : Int)) := fun o => cell_alloc_keep c16 o
          have k7 : ∀ o : Obj, (w3.drew.alloc o).cell? ⟨g, m - 7, none⟩ = some (.int .u32 (c : Int)) := fun o => cell_alloc_keep c7 o
          replace k16 := Lib.hid k16
          replace k7 := Lib.hid k7
          go_region_law (first
            | (refine step_append_x rfl (.tmp 68) (.tmp 84) 136 rfl 140 Try.underlying136 (.int .u32 0) 4 infoU32 rfl (by decide) w.heap.size w (.slice (some ⟨g, 0, none⟩) m cp) (u32l (spreadTo (byt t) (m - 16))) rfl (hO3.out.drew.alloc _) (hB3.out.drew.alloc hB3.out.size _) (by have := hB3.out.size; simp; omega) ⟨w3.heap.size, 0, none⟩ 1 1 [.int .u32 (r : Int)] rfl rfl (one_cell (w := w3.drew)) (by simp [Value.oneCell']) (by rw [hlo.out]; omega) ?_
               intro v5 w5 hO5 hB5 hg5 hb5))
          all_goals
            go_wp2_with fail
            go_roundw
            · exact ⟨m + 1, by omega, by omega, by go_num, by rw [elist.out]; exact hO5.out, hB5.out⟩
            · simp [intOf]; omega
        · obtain rfl : m = 64 := by omega
          simp only [show ((64 : Nat) : Int) = 64 from rfl]
          have hO1 : Own wr w.heap.size 140 u3 (u32l (spread (byt t))) := hO
          replace hO := Lib.hid hO
          replace hO1 := Lib.hid hO1
          replace hB := Lib.hid hB
          go_wp2_with fail
          go_ret
          exact ⟨_, rfl, hO1.out, hB.out⟩

end Go.Proofs.Ytecmagenlbnchaa
