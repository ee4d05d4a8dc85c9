/-
  sha's Write: bytes behind a text. Conditions: the hash holds a text, the bytes lie outside its block.
-/
import Derived.Test.YtjhfoddhpmmjoaaDoorQShaTake
namespace Go.Proofs.YtjhfoddhpmmjoaaDoor
set_option maxRecDepth 100000
open Go.RowKit

/-- A hash of text t, c bytes counted. -/
structure HashP (w : World) (b : Nat) (t : List Nat) (c : Nat) : Prop where
  raw : ∃ buf, HashRaw w b (hashOf t) buf (t.length % 64) c ∧ ∀ i, i < t.length % 64 → byt buf i = byt t (64 * (t.length / 64) + i)
  small : ∀ x ∈ t, x < 256
theorem HashP.stay {w w' : World} {b : Nat} {t : List Nat} {c : Nat} {S : Nat → Prop} (H : HashP w b t c) (hU : Upd S w w') (hb : ¬ S b) : HashP w' b t c := by
  obtain ⟨buf, h1, h2⟩ := H.raw
  exact ⟨⟨buf, h1.stay hU hb, h2⟩, H.small⟩
theorem HashP.lt {w : World} {b : Nat} {t : List Nat} {c : Nat} (H : HashP w b t c) : b < w.heap.size := by
  obtain ⟨buf, h1, _⟩ := H.raw
  exact lt_of_block h1.cells

/-- Bytes put into a buffer. -/
def putBuf (buf : List Nat) (n : Nat) (d : List Nat) : List Nat := buf.take n ++ (d ++ buf.drop (n + d.length))
theorem length_putBuf {buf : List Nat} {n : Nat} {d : List Nat} (h : n + d.length ≤ buf.length) : (putBuf buf n d).length = buf.length := by
  simp [putBuf]; omega
theorem byt_putBuf_old {buf : List Nat} {n : Nat} {d : List Nat} (h : n + d.length ≤ buf.length) {i : Nat} (hi : i < n) : byt (putBuf buf n d) i = byt buf i := by
  unfold putBuf
  rw [byt_append, if_pos (by simp; omega)]
  simp [byt, List.getD, hi]
theorem byt_putBuf_new {buf : List Nat} {n : Nat} {d : List Nat} (h : n + d.length ≤ buf.length) {i : Nat} (hi : i < d.length) : byt (putBuf buf n d) (n + i) = byt d i := by
  unfold putBuf
  rw [byt_append, if_neg (by simp; omega)]
  rw [byt_append, if_pos (by simp; omega)]
  congr 1
  simp; omega
theorem small_putBuf {buf d : List Nat} {n : Nat} (h1 : ∀ x ∈ buf, x < 256) (h2 : ∀ x ∈ d, x < 256) : ∀ x ∈ putBuf buf n d, x < 256 := by
  intro x hx
  unfold putBuf at hx
  rcases List.mem_append.1 hx with h | h
  · exact h1 x (List.mem_of_mem_take h)
  · rcases List.mem_append.1 h with h | h
    · exact h2 x h
    · exact h1 x (List.mem_of_mem_drop h)
theorem putBuf_cells (h buf d : List Nat) (n n' c : Nat) (hl : h.length = 8) (hb : buf.length = 64) (hd : n + d.length ≤ 64) :
    ((hashCells h buf n' c).toList.take (9 + n) ++ (u8l d ++ (hashCells h buf n' c).toList.drop (9 + n + (u8l d).length))).toArray = hashCells h (putBuf buf n d) n' c := by
  unfold hashCells putBuf u8l
  congr 1
  simp only [List.length_map]
  rw [show 9 + n = (8 + n) + 1 by omega, show 8 + n + 1 + d.length = (8 + (n + d.length)) + 1 by omega]
  simp only [List.cons_append, List.take_succ_cons, List.drop_succ_cons, List.append_assoc]
  rw [List.take_append, List.drop_append]
  simp only [List.length_map, hl]
  rw [List.take_of_length_le (by simp [hl]), List.drop_eq_nil_of_le (by simp [hl])]
  rw [show 8 + n - 8 = n by omega, show 8 + (n + d.length) - 8 = n + d.length by omega]
  rw [List.take_append_of_le_length (by simp; omega), List.drop_append_of_le_length (by simp; omega)]
  simp [List.map_take, List.map_drop]

/-- The rest of a slice of bytes. -/
theorem run_rest (ob oo len cap m : Nat) (hm : m ≤ len) (hc : len ≤ cap) : ∃ ao : Option Addr, (∀ x, (Instr.slice 85 (.slice (some ⟨ob, oo, none⟩) len cap) (some (.int .i64 (m : Int))) none none).run Tryd.prog x = .ok (.slice ao (len - m) (cap - m)) x) ∧ (m < len → ao = some ⟨ob, oo + m, none⟩) := by
  have hu : Tryd.prog.underlying 85 = some (.slice (Tryd.prog.elem 85)) := by rw [Tryd.underlying85]; rfl
  refine ⟨if cap = m then some ⟨ob, oo, none⟩ else some ⟨ob, oo + m, none⟩, fun x => ?_, fun h => by rw [if_neg (by omega)]⟩
  rw [run_slice_l (P := Tryd.prog) x 85 _ len cap hu .i64 m (by omega) (by omega)]
  have hs : (sizeOf (Tryd.prog.elem 85)).run Tryd.prog x = .ok 1 x := by
    obtain ⟨i, hi, h1⟩ : ∃ i, Tryd.prog.info? (Tryd.prog.elem 85) = some i ∧ i.size = 1 := by
      have h1 : (Tryd.prog.info? (Tryd.prog.elem 85)).map (·.size) = some 1 := by kernel_rfl
      cases hq : Tryd.prog.info? (Tryd.prog.elem 85) with
      | none => simp [hq] at h1
      | some i => exact ⟨i, rfl, by simpa [hq] using h1⟩
    simp [sizeOf, typeInfo, hi, h1]
  rw [hs]
  simp only [Result.andThen, sliced, Int.toNat_natCast, Nat.mul_one]
  congr 2
  by_cases h : cap = m
  · simp [h]
  · simp [h, Addr.add_lit]

theorem run_buf (b n : Nat) (hn : n < 64) : ∀ x, (Instr.sliceAt 124 (.pointer (some ⟨b, 9, none⟩)) (some (.int .i64 (n : Int))) none none).run Tryd.prog x = .ok (.slice (some ⟨b, 9 + n, none⟩) (64 - n) (64 - n)) x := by
  intro x
  have hl : Tryd.prog.arrayLen 124 = 64 := by kernel_rfl
  have hu : Tryd.prog.underlying 124 = some (.array (Tryd.prog.arrayLen 124) (Tryd.prog.elem 124)) := by kernel_rfl
  rw [run_sliceAt_array_l (P := Tryd.prog) x 124 _ hu .i64 n (by omega) (by rw [hl]; omega), hl]
  have hs : (sizeOf (Tryd.prog.elem 124)).run Tryd.prog x = .ok 1 x := by
    obtain ⟨i, hi, h1⟩ : ∃ i, Tryd.prog.info? (Tryd.prog.elem 124) = some i ∧ i.size = 1 := by
      have h1 : (Tryd.prog.info? (Tryd.prog.elem 124)).map (·.size) = some 1 := by kernel_rfl
      cases hq : Tryd.prog.info? (Tryd.prog.elem 124) with
      | none => simp [hq] at h1
      | some i => exact ⟨i, rfl, by simpa [hq] using h1⟩
    simp [sizeOf, typeInfo, hi, h1]
  rw [hs]
  simp only [Result.andThen, slicedAt, Int.toNat_natCast, Nat.mul_one]
  rw [if_neg (by omega), Addr.add_lit]

set_option maxRecDepth 100000 in
theorem write_any (w : World) (b : Nat) (t : List Nat) (c : Nat) (ao : Option Addr) (len cap : Nat) (s : Nat → Nat) (H : HashP w b t c) (hlen : len ≤ cap) (hcap : c + len < 1000000000000) (hs : BytesAt w ao len s) (hout : 0 < len → ∀ ob oo, ao = some ⟨ob, oo, none⟩ → ob ≠ b) :
    Calls Tryd.prog 89 #[.pointer (some ⟨b, 0, none⟩), .slice ao len cap] w fun e w' => e = .returned (.int .i64 0) ∧ HashP w' b (t ++ bytesOf s len) (c + len) ∧ Upd (fun i => i = b) w w' := by
  obtain ⟨buf, H0, hbuf⟩ := H.raw
  have c0 := H0.c0
  have cc := H0.cc
  have fc := H0.frozen 74
  have h1 := H0.setC (c + len)
  have u1 : Upd (fun i => i = b) w (w.setCell ⟨b, 74, none⟩ (.int .u64 ((c + len : Nat) : Int))) := (Upd.refl _ _).setCell _ _ (fun _ => rfl)
  replace h1 := Lib.hid h1
  replace u1 := Lib.hid u1
  replace H0 := Lib.hid H0
  replace hbuf := Lib.hid hbuf
  replace H := Lib.hid H
  replace hs := Lib.hid hs
  replace hout := Lib.hid hout
  go_enter Tryd.func89, Tryd.ntmps89
  go_wp2_with fail
  have hk0 : ∀ k, k < len → ∃ ob oo, ao = some ⟨ob, oo, none⟩ ∧ ob ≠ b := fun k hk => by
    obtain ⟨_, ob, oo, e, _⟩ := hs.out k hk
    exact ⟨ob, oo, e, hout.out (by omega) ob oo e⟩
  have start : HashP (w.setCell ⟨b, 74, none⟩ (.int .u64 ((c : Int) + (len : Int)))) b (t ++ bytesOf s 0) (c + len) ∧ Upd (fun i => i = b) w (w.setCell ⟨b, 74, none⟩ (.int .u64 ((c : Int) + (len : Int)))) := by
    rw [← Int.natCast_add, bytesOf_zero, List.append_nil]
    exact ⟨⟨⟨buf, h1.out, hbuf.out⟩, H.out.small⟩, u1.out⟩
  have hlt0 := H.out.lt
  have hsm : ∀ k, k ≤ len → ∀ x ∈ t ++ bytesOf s k, x < 256 := fun k hk x hx => by
    rcases List.mem_append.1 hx with h | h
    · exact H.out.small x h
    · exact bytesOf_lt (fun i hi => (hs.out i (by omega)).1) x h
  replace hsm := Lib.hid hsm
  replace start := Lib.hid start
  replace hk0 := Lib.hid hk0
  clear h1 u1 cc fc c0 hbuf H0 H
  go_loopw [1] (fun v wr => ∃ k : Nat, ∃ ak ck, k ≤ len ∧ v = .slice ak (len - k) ck ∧ len - k ≤ ck ∧ (k < len → ∃ ob oo, ao = some ⟨ob, oo, none⟩ ∧ ak = some ⟨ob, oo + k, none⟩) ∧ HashP wr b (t ++ bytesOf s k) (c + len) ∧ Upd (fun i => i = b) w wr) (fun v _ => match v with | .slice _ l _ => l | _ => 0)
  case atStart => exact ⟨0, ao, cap, Nat.zero_le _, rfl, hlen, fun h => by obtain ⟨ob, oo, e, _⟩ := hk0.out 0 h; exact ⟨ob, oo, e, e⟩, start.out⟩
  case round =>
    obtain ⟨k, ak, ck, hk, rfl, hck, hak, hP, hU⟩ := hrel
    by_cases hlt : k < len
    · obtain ⟨ob, oo, rfl, rfl⟩ := hak hlt
      have hob : ob ≠ b := hout.out (by omega) ob oo rfl
      have hsrc : ∀ i, i < len → wr.cell? ⟨ob, oo + i, none⟩ = some (.int .u8 (s i)) := fun i hi => by
        obtain ⟨_, ob', oo', e, h2⟩ := hs.out i hi
        cases e
        exact (hU.cell (block_lt_of_cell h2) hob).trans h2
      generalize hT : t ++ bytesOf s k = T at hP
      obtain ⟨buf, R, hbuf⟩ := hP.raw
      have hn : T.length % 64 < 64 := Nat.mod_lt _ (by omega)
      generalize hnn : T.length % 64 = n at *
      obtain ⟨m, hm⟩ : ∃ m, m = Nat.min (len - k) (64 - n) := ⟨_, rfl⟩
      have hm1 : m ≤ len - k := by rw [hm]; exact Nat.min_le_left _ _
      have hm2 : m ≤ 64 - n := by rw [hm]; exact Nat.min_le_right _ _
      have hm3 : 0 < m := by rw [hm]; exact Nat.lt_min.2 ⟨by omega, by omega⟩
      have hd : ∀ i, i < m → wr.cell? ⟨ob, oo + k + i, none⟩ = some (.int .u8 (byt (bytesOf (fun i => s (k + i)) m) i)) := fun i hi => by
        rw [byt_bytesOf _ hi, Nat.add_assoc]; exact hsrc (k + i) (by omega)
      have cn := R.cn
      obtain ⟨ar, hrest, har⟩ := run_rest ob (oo + k) (len - k) ck m hm1 hck
      have n64 : ((n : Int) == 64) = false := by simp; omega
      replace R := Lib.hid R
      replace hbuf := Lib.hid hbuf
      replace hd := Lib.hid hd
      replace hsrc := Lib.hid hsrc
      replace har := Lib.hid har
      replace hU := Lib.hid hU
      replace hP := Lib.hid hP
      replace hm := Lib.hid hm
      have hbf := run_buf b n hn
      go_wp2_with fail
      go_still_tail 9, (by kernel_rfl)
      refine wpList_copy_row rfl (.tmp 35) (.tmp 36) 85 85 rfl 5 Tryd.underlying85 (by kernel_rfl) b (9 + n) (64 - n) (64 - n) ⟨ob, oo + k, none⟩ (len - k) ck rfl rfl (hashCells (hashOf T) buf n (c + len)) 156 (by exact R.out.cells) (u8l (bytesOf (fun i => s (k + i)) m)) (by simp [u8l, hm.out]) (by exact src_bytes hd.out (by simp)) ?_ (u8l_one _) (hashCells (hashOf T) (putBuf buf n (bytesOf (fun i => s (k + i)) m)) n (c + len)) (putBuf_cells _ _ _ _ _ _ R.out.lh R.out.lb (by simp; omega)) ?_
      · have h1 := R.out.lh
        have h2 := R.out.lb
        simp [hashCells, u8l, h1, h2]; omega
      intro w2 hw2
      have elm : (u8l (bytesOf (fun i => s (k + i)) m)).length = m := by simp [u8l]
      rw [elm]
      have hd64 : n + (bytesOf (fun i => s (k + i)) m).length ≤ buf.length := by rw [R.out.lb]; simp; omega
      have R2 : HashRaw w2 b (hashOf T) (putBuf buf n (bytesOf (fun i => s (k + i)) m)) n (c + len) :=
        ⟨R.out.lh, by rw [length_putBuf hd64]; exact R.out.lb, R.out.sh, small_putBuf R.out.sb (bytesOf_lt fun i hi => (hs.out _ (by omega)).1), by rw [hw2.out]; exact setRow_heap _ _ _ _ _ _ R.out.cells⟩
      have U2 : Upd (fun i => i = b) w w2 := by rw [hw2.out]; exact Upd.setRow (Upd.drew hU.out) _ _ (fun _ => rfl)
      clear hw2
      have cn2 := R2.cn
      have fn2 := R2.frozen 73
      have R3 := R2.setN (n + m)
      have U3 := U2.setCell ⟨b, 73, none⟩ (.int .i64 ((n + m : Nat) : Int)) (fun _ => rfl)
      rw [Int.natCast_add] at R3 U3
      have tk := take_any _ b _ _ _ _ R3
      have eT : t ++ bytesOf s (k + m) = T ++ bytesOf (fun i => s (k + i)) m := by rw [bytesOf_add, ← List.append_assoc, hT]
      replace R2 := Lib.hid R2
      replace U2 := Lib.hid U2
      replace R3 := Lib.hid R3
      replace U3 := Lib.hid U3
      replace tk := Lib.hid tk
      replace eT := Lib.hid eT
      replace hrest := fun x => hrest x
      have hak' : k + m < len → ∃ ob' oo', (some ⟨ob, oo, none⟩ : Option Addr) = some ⟨ob', oo', none⟩ ∧ ar = some ⟨ob', oo' + (k + m), none⟩ := fun h => ⟨ob, oo, rfl, by rw [har.out (by omega), Nat.add_assoc]⟩
      replace hak' := Lib.hid hak'
      clear hak
      by_cases hfull : n + m = 64
      · have hn64 : ((n : Int) + (m : Int) == 64) = true := by simp; omega
        go_wp2_with fail
        refine tk.out.mono ?_
        rintro e w4 ⟨rfl, R4, U4⟩
        have P4 : HashP w4 b (t ++ bytesOf s (k + m)) (c + len) := by
          have e1 := hashOf_full (t := T) (d := bytesOf (fun i => s (k + i)) m) (by rw [hnn]; simpa using hfull) (byt (putBuf buf n (bytesOf (fun i => s (k + i)) m)))
            (fun i hi => by rw [hnn] at hi; rw [byt_putBuf_old hd64 hi]; exact hbuf.out i hi) (fun i hi => by rw [hnn]; exact byt_putBuf_new hd64 hi)
          refine ⟨⟨putBuf buf n (bytesOf (fun i => s (k + i)) m), ?_, fun i hi => ?_⟩, hsm.out _ (by omega)⟩
          · rw [eT.out, e1, show (T ++ bytesOf (fun i => s (k + i)) m).length % 64 = 0 by simp; omega]
            exact R4
          · rw [eT.out, show (T ++ bytesOf (fun i => s (k + i)) m).length % 64 = 0 by simp; omega] at hi
            omega
        have U5 : Upd (fun i => i = b) w w4 := U3.out.trans U4 (fun _ _ h => h)
        replace P4 := Lib.hid P4
        replace U5 := Lib.hid U5
        clear R4 U4
        go_wp2_with fail
        go_roundw
        case rel => exact ⟨k + m, ar, ck - m, by omega, by rw [Nat.sub_sub], by omega, hak'.out, P4.out, U5.out⟩
        case measure => exact (show len - k - m < len - k by omega)
      · have hn64 : ((n : Int) + (m : Int) == 64) = false := by simp; omega
        have P4 : HashP (w2.setCell ⟨b, 73, none⟩ (.int .i64 ((n : Int) + (m : Int)))) b (t ++ bytesOf s (k + m)) (c + len) := by
          have hlt' : T.length % 64 + (bytesOf (fun i => s (k + i)) m).length < 64 := by rw [hnn]; simp; omega
          have e1 := hashOf_short hlt'
          have e2 : (T ++ bytesOf (fun i => s (k + i)) m).length % 64 = n + m := by simp; omega
          have e3 : (T ++ bytesOf (fun i => s (k + i)) m).length / 64 = T.length / 64 := by simp; omega
          refine ⟨⟨putBuf buf n (bytesOf (fun i => s (k + i)) m), ?_, fun i hi => ?_⟩, hsm.out _ (by omega)⟩
          · rw [eT.out, e1, e2]
            exact R3.out
          · rw [eT.out, e2] at hi
            rw [eT.out, e3, byt_append]
            by_cases hi2 : i < n
            · rw [if_pos (by omega), byt_putBuf_old hd64 hi2]; exact hbuf.out i hi2
            · rw [if_neg (by omega)]
              have := byt_putBuf_new hd64 (i := i - n) (by simp; omega)
              rw [show n + (i - n) = i by omega] at this
              rw [this]; congr 1; omega
        replace P4 := Lib.hid P4
        go_wp2_with fail
        go_roundw
        case rel => exact ⟨k + m, ar, ck - m, by omega, by rw [Nat.sub_sub], by omega, hak'.out, P4.out, U3.out⟩
        case measure => exact (show len - k - m < len - k by omega)
    · obtain ⟨d, hd⟩ : ∃ d, d = len - k := ⟨_, rfl⟩
      obtain rfl : k = len := by omega
      obtain rfl : d = 0 := by omega
      rw [← hd]
      clear hd
      replace hP := Lib.hid hP
      replace hU := Lib.hid hU
      go_wp2_with fail
      go_ret
      exact ⟨rfl, hP.out, hU.out⟩

end Go.Proofs.YtjhfoddhpmmjoaaDoor
