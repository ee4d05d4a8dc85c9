/-
  seal: sealers: New, Seal, Open. Conditions: a key of 32 bytes; numbers of 64 bits.
  SealOnce: what is kept: counters, sealers, the slice of sealers, the stamps seen. No condition.
  SealOnce. Conditions: numbers; a text.
  SealCounts. Conditions: a key of 32 bytes; numbers of 64 bits; texts.
-/
import Derived.Test.YtecmagenlbnchaaQSealBack22
import Derived.Test.YtecmagenlbnchaaQKeysSmall
import Derived.Great.Ranges
import Derived.OwnWalk
import Derived.Test.YtecmagenlbnchaaQOwn
import Derived.IntWalk
namespace Go.Proofs.Ytecmagenlbnchaa
set_option maxRecDepth 100000
open Go.RowKit

/-- A part put into a row of values. -/
theorem fill_putV (place : Nat → Option (Nat × Nat)) (i off : Nat) (L a : List Value) (v : Value) (rest : List (Nat × Value)) (hv : v.cells = a.toArray) (hp : place i = some (off, a.length)) (hle : off + a.length ≤ L.length) :
    Instr.fill place L.toArray ((i, v) :: rest) = Instr.fill place (L.take off ++ (a ++ L.drop (off + a.length))).toArray rest := by
  conv => lhs; unfold Instr.fill
  simp only [hp, hv, List.size_toArray]
  rw [if_neg (by simp; omega)]
  congr 1
  rw [← Array.foldl_toList, Array.toList_zipIdx]
  obtain ⟨h1, h2⟩ := Go.Great.foldl_set off a 0 L.toArray
  apply Array.ext_getElem?
  intro k
  refine (h2 k).trans ?_
  simp only [Nat.add_zero, List.size_toArray, List.getElem?_toArray]
  by_cases hk : off ≤ k ∧ k < off + a.length
  · rw [if_pos ⟨hk.1, hk.2, by omega⟩, List.getElem?_append_right (by simp; omega), List.getElem?_append_left (by simp; omega)]
    congr 1
    simp; omega
  · rw [if_neg (by omega)]
    by_cases h3 : k < off
    · rw [List.getElem?_append_left (by simp; omega), List.getElem?_take_of_lt h3]
    · rw [List.getElem?_append_right (by simp; omega), List.getElem?_append_right (by simp; omega), List.getElem?_drop]
      congr 1
      simp; omega
/-- A sealer's cells. -/
def sealCells (m : List Nat) (n : Nat) (pc : Option Addr) : Array Value := (Value.bool true :: (u8l m ++ [.int .u64 (n : Int), .pointer pc])).toArray
theorem built_sealer {m : List Nat} (hm : m.length = 32) (n : Nat) (pc : Option Addr) : Try.prog.built 47 [(0, .bool true), (1, .agg (u8s m)), (2, .int .u64 (n : Int)), (3, .pointer pc)] = some (sealCells m n pc) := by
  obtain ⟨it, hit, hz⟩ : ∃ it, Try.prog.info? 47 = some it ∧ it.zero = some (.agg (Value.bool false :: (u8l (List.replicate 32 0) ++ [.int .u64 0, .pointer none])).toArray) := by
    have h : (Try.prog.info? 47).bind (·.zero) = some (.agg (Value.bool false :: (u8l (List.replicate 32 0) ++ [.int .u64 0, .pointer none])).toArray) := by kernel_rfl
    cases hq : Try.prog.info? 47 with
    | none => rw [hq] at h; simp at h
    | some it => rw [hq] at h; exact ⟨it, rfl, h⟩
  obtain ⟨fields, hu, hf⟩ : ∃ fields, Try.prog.underlying 47 = some (.struct fields) ∧ fields.toList.mapM (fun f => (Try.prog.info? f.type).map fun i => (f.offset, i.size)) = some [(0, 1), (1, 32), (33, 1), (34, 1)] := by
    have h := Try.underlying47
    exact ⟨_, h, by kernel_rfl⟩
  have lm : (u8l m).length = 32 := by simp [u8l, hm]
  unfold Program.built
  simp only [hit, hu, hz, hf]
  show Instr.fill _ (Value.bool false :: (u8l (List.replicate 32 0) ++ [.int .u64 0, .pointer none])).toArray _ = _
  rw [fill_putV _ 0 0 _ [.bool true] _ _ rfl rfl (by simp)]
  rw [fill_putV _ 1 1 _ (u8l m) _ _ rfl (by rw [lm]; rfl) (by rw [lm]; simp [u8l])]
  rw [fill_putV _ 2 33 _ [.int .u64 (n : Int)] _ _ rfl rfl (by simp [u8l, hm])]
  rw [fill_putV _ 3 34 _ [.pointer pc] _ _ rfl rfl (by simp [u8l, hm])]
  simp only [Instr.fill, sealCells]
  congr 2
  apply List.ext_getElem?
  intro k
  have t33 : (List.map (fun (n : Nat) => Value.int .u8 (n : Int)) m).take 33 = List.map (fun (n : Nat) => Value.int .u8 (n : Int)) m := List.take_of_length_le (by simp [hm])
  have d33 : (List.map (fun (n : Nat) => Value.int .u8 (n : Int)) m).drop 33 = [] := List.drop_eq_nil_of_le (by simp [hm])
  have d34 : (List.map (fun (n : Nat) => Value.int .u8 (n : Int)) m).drop 34 = [] := List.drop_eq_nil_of_le (by simp [hm])
  simp [u8l, hm, List.take_append, List.drop_append, t33, d33, d34]
theorem wpList_build4 {P : Program} {ops : Array Oper} {rest : List Oper} {o : Oper} {a : Act} {w : World} {Q : Exit → Act → World → Prop} (hg : o.guard = none) (t : TypeId) (x0 x1 x2 x3 : Operand) (ho : o.op = .build t #[(0, x0), (1, x1), (2, x2), (3, x3)])
    (v0 v1 v2 v3 : Value) (h0 : a.eval x0 = v0) (h1 : a.eval x1 = v1) (h2 : a.eval x2 = v2) (h3 : a.eval x3 = v3) (cells : Array Value) (hb : P.built t [(0, v0), (1, v1), (2, v2), (3, v3)] = some cells) (h : wpList P ops Q rest (a.put o.dst (.agg cells)) w) : wpList P ops Q (o :: rest) a w := by
  have e : (#[((0 : Nat), x0), (1, x1), (2, x2), (3, x3)].map fun ((i : Nat), x) => (i, a.eval x)).toList = [(0, v0), (1, v1), (2, v2), (3, v3)] := by simp [h0, h1, h2, h3]
  exact wpList_build hg t _ ho (by rw [e, hb]; rfl) (by rw [e, hb]; exact h)
/-- A sealer of a volume, over a counter or none. -/
def SealerAt (w : World) (b : Nat) (m : List Nat) (n : Nat) (pc : Option Addr) : Prop := w.heap[b]? = some (.cells (sealCells m n pc) 47 (0, 0))
theorem SealerAt.lt {w : World} {b n : Nat} {m : List Nat} {pc : Option Addr} (h : SealerAt w b m n pc) : b < w.heap.size := lt_of_block h
theorem SealerAt.below {w w' : World} {b n k : Nat} {m : List Nat} {pc : Option Addr} (h : SealerAt w b m n pc) (hB : Below k w w') (hk : b < k) : SealerAt w' b m n pc := (hB.block b hk).trans h
theorem SealerAt.made {w : World} {b n : Nat} {m : List Nat} {pc : Option Addr} (h : SealerAt w b m n pc) : w.cell? ⟨b, 0, none⟩ = some (.bool true) := (cell_of_row _ _ 0 _ _ _ h).trans rfl
theorem SealerAt.master {w : World} {b n : Nat} {m : List Nat} {pc : Option Addr} (h : SealerAt w b m n pc) : w.rangeAt b 1 (u8l m) := fun j v hv => by
  rw [cell_of_row _ _ _ _ _ _ h]
  have hj := (List.getElem?_eq_some_iff.1 hv).1
  simp only [sealCells, List.getElem?_toArray, Nat.add_comm 1 j, List.getElem?_cons_succ]
  rw [List.getElem?_append_left hj]; exact hv
theorem SealerAt.number {w : World} {b n : Nat} {m : List Nat} {pc : Option Addr} (h : SealerAt w b m n pc) (hm : m.length = 32) : w.cell? ⟨b, 33, none⟩ = some (.int .u64 (n : Int)) := by
  rw [cell_of_row _ _ _ _ _ _ h]
  simp [sealCells, u8l, hm]
theorem SealerAt.count {w : World} {b n : Nat} {m : List Nat} {pc : Option Addr} (h : SealerAt w b m n pc) (hm : m.length = 32) : w.cell? ⟨b, 34, none⟩ = some (.pointer pc) := by
  rw [cell_of_row _ _ _ _ _ _ h]
  simp [sealCells, u8l, hm]
set_option maxRecDepth 100000 in
theorem snew22 (w : World) (m : List Nat) (n : Nat) (pc : Option Addr) (lm : m.length = 32) :
    Calls Try.prog 19 #[.agg (u8s m), .int .u64 (n : Int), .pointer pc] w fun e w' => ∃ b, e = .returned (.pointer (some ⟨b, 0, none⟩)) ∧ w.heap.size ≤ b ∧ SealerAt w' b m n pc ∧ Below w.heap.size w w' := by
  have r0 : RowB (w.alloc (.cells (u8s m) 23)) w.heap.size 23 m := heap_alloc_new _ _
  have b0 : Below w.heap.size w (w.alloc (.cells (u8s m) 23)) := (Below.refl _ _).alloc (Nat.le_refl _) _
  have hb := built_sealer lm n pc
  have iM := infoKey lm
  have b1 := b0.alloc b0.size (.cells (sealCells m n pc) 47)
  have S1 : SealerAt ((w.alloc (.cells (u8s m) 23)).alloc (.cells (sealCells m n pc) 47)) (w.heap.size + 1) m n pc := by
    rw [show w.heap.size + 1 = (w.alloc (.cells (u8s m) 23)).heap.size by simp]; exact heap_alloc_new _ _
  generalize sealCells m n pc = C at *
  replace r0 := Lib.hid r0
  replace b0 := Lib.hid b0
  replace hb := Lib.hid hb
  replace iM := Lib.hid iM
  replace b1 := Lib.hid b1
  replace S1 := Lib.hid S1
  go_enter Try.func19, Try.ntmps19
  go_wp2_with (first
    | refine wpList_load_b (by rfl) 23 (.tmp 3) rfl w.heap.size rfl 23 m r0.out _ Try.underlying23 rfl iM.out ?_
    | refine wpList_build4 (by rfl) 47 _ _ _ _ rfl _ _ _ _ rfl rfl rfl rfl C hb.out ?_
    | refine Go.Great.wpList_boxTo (by rfl) 47 (.tmp 10) rfl (some 11) rfl _ rfl C rfl ?_)
  go_ret
  exact ⟨_, rfl, by simp, S1.out, b1.out⟩
set_option maxHeartbeats 4000000 in
set_option maxRecDepth 100000 in
/-- Seal of a sealer over a counter. -/
theorem sealm_ok (w : World) (b c : Nat) (m : List Nat) (n e k : Nat) (lm : m.length = 32) (sm : ∀ x ∈ m, x < 256) (hn : n < 18446744073709551616) (he : e < 16777216) (hk : k < 1099511627775) (hS : SealerAt w b m n (some ⟨c, 0, none⟩)) (hC : CountAt w c e k) (hbc : b ≠ c)
    (v : Value) (l : List Nat) (hl : TextAt w v l) (el : l.length = 512) (hfar : ∀ w', Upd (fun i => i = c) w w' → TextAt w' v l) :
    Calls Try.prog 20 #[.pointer (some ⟨b, 0, none⟩), v] w fun x w' => ∃ y, x = .returned (.tuple #[.int .u64 (stampOf e (k + 1) : Int), y, .int .i64 0]) ∧ TextAt w' y (slturnL m n (stampOf e (k + 1)) l) ∧ CountAt w' c e (k + 1) ∧ Upd (fun i => i = c) w w' := by
  obtain ⟨ao, cap, rfl, h1, h2, h3⟩ := hl.ex
  rw [el] at hl hfar ⊢
  have cn := Lib.hid (next_any w c e k he hk hC)
  have hst := stamp_lt (e := e) (c := k + 1) he (by omega)
  have cs := Lib.hid (fun wx (h : TextAt wx (.slice ao 512 cap) l) => sealturn_any wx m n (stampOf e (k + 1)) lm sm hn _ l h)
  have eT : slturnT m n (stampOf e (k + 1)) l = slturnL m n (stampOf e (k + 1)) l := if_pos el
  rw [eT, el, show slE 512 = 0 from rfl] at cs
  have c0 := hS.made
  have c34 := hS.count lm
  have iM := infoKey lm
  clear eT
  generalize slturnL m n (stampOf e (k + 1)) l = T at *
  generalize stampOf e (k + 1) = St at *
  replace hS := Lib.hid hS
  replace hC := Lib.hid hC
  replace lm := Lib.hid lm
  replace sm := Lib.hid sm
  replace hl := Lib.hid hl
  replace el := Lib.hid el
  replace iM := Lib.hid iM
  go_enter Try.func20, Try.ntmps20
  go_wp2_with fail
  refine cn.out.mono ?_
  rintro x w1 ⟨rfl, C1, U1⟩
  have S1 : SealerAt w1 b m n (some ⟨c, 0, none⟩) := (U1.block _ hS.out.lt hbc).trans hS.out
  have T1 := hfar w1 U1
  clear cn c0 c34 h3 hfar
  have M1 := S1.master
  have N1 := S1.number lm.out
  have Md : w1.drew.rangeAt b 1 (u8l m) := M1
  have Nd : w1.drew.cell? ⟨b, 33, none⟩ = some (.int .u64 (n : Int)) := N1
  clear M1 N1
  replace S1 := Lib.hid S1
  replace T1 := Lib.hid T1
  replace C1 := Lib.hid C1
  replace U1 := Lib.hid U1
  replace Md := Lib.hid Md
  replace Nd := Lib.hid Nd
  go_wp2_with fail
  refine wp_region_held_drew (S := (fun w' => w'.rangeAt b 1 (u8l m) ∧ w'.cell? ⟨b, 33, none⟩ = some (.int .u64 (n : Int)))) (by kernel_rfl) (⟨Md.out, Nd.out⟩) (fun hHeld => ?_)
  refine held_take (i := 0) (v := ?_) rfl (by kernel_rfl) (by kernel_rfl) (by kernel_rfl) (fun _ _ _ h => h) (Or.inl ⟨by rfl, ?_⟩) (by assumption) ?_
  rotate_left
  · intro w hSw; (try dsimp only at hSw); go_simp; try with_reducible rfl
  try simp only [Act.put, List.setIfInBounds_toArray, List.set_cons_zero, List.set_cons_succ]
  refine held_take (i := 1) (v := ?_) rfl (by kernel_rfl) (by kernel_rfl) (by kernel_rfl) (fun _ _ _ h => h) (Or.inl ⟨by rfl, ?_⟩) (by assumption) ?_
  rotate_left
  · intro w hSw; (try dsimp only at hSw); go_simp; try with_reducible rfl
  try simp only [Act.put, List.setIfInBounds_toArray, List.set_cons_zero, List.set_cons_succ]
  refine held_take (i := 2) (v := ?_) rfl (by kernel_rfl) (by kernel_rfl) (by kernel_rfl) (fun _ _ _ h => h) (Or.inl ⟨by rfl, ?_⟩) (by assumption) ?_
  rotate_left
  · intro w hSw; (try dsimp only at hSw); go_simp; try with_reducible rfl
  try simp only [Act.put, List.setIfInBounds_toArray, List.set_cons_zero, List.set_cons_succ]
  refine held_take (i := 3) (v := _) rfl (by kernel_rfl) (by kernel_rfl) (by kernel_rfl) (fun _ _ _ h => h) (yieldsIf_part (by rfl) rfl rfl m Try.underlying23 iM.out (fun w' h => h.1)) (by assumption) ?_
  try simp only [Act.put, List.setIfInBounds_toArray, List.set_cons_zero, List.set_cons_succ]
  refine held_take (i := 4) (v := ?_) rfl (by kernel_rfl) (by kernel_rfl) (by kernel_rfl) (fun _ _ _ h => h) (Or.inl ⟨by rfl, ?_⟩) (by assumption) ?_
  rotate_left
  · intro w hSw; (try dsimp only at hSw); go_simp; try with_reducible rfl
  try simp only [Act.put, List.setIfInBounds_toArray, List.set_cons_zero, List.set_cons_succ]
  refine held_take (i := 5) (v := ?_) rfl (by kernel_rfl) (by kernel_rfl) (by kernel_rfl) (fun _ _ _ h => h) (Or.inl ⟨by rfl, ?_⟩) (by assumption) ?_
  rotate_left
  · intro w hSw; (try dsimp only at hSw); go_simp; try with_reducible rfl
  try simp only [Act.put, List.setIfInBounds_toArray, List.set_cons_zero, List.set_cons_succ]
  refine held_take (i := 6) (v := ?_) rfl (by kernel_rfl) (by kernel_rfl) (by kernel_rfl) (fun _ _ _ h => h) (Or.inl ⟨by rfl, ?_⟩) (by assumption) ?_
  rotate_left
  · intro w hSw; (try dsimp only at hSw); go_simp; try with_reducible rfl
  try simp only [Act.put, List.setIfInBounds_toArray, List.set_cons_zero, List.set_cons_succ]
  refine held_take (i := 7) (v := ?_) rfl (by kernel_rfl) (by kernel_rfl) (by kernel_rfl) (fun _ _ _ h => h) (Or.inl ⟨by rfl, ?_⟩) (by assumption) ?_
  rotate_left
  · intro w hSw; (try dsimp only at hSw); go_simp; try with_reducible rfl
  try simp only [Act.put, List.setIfInBounds_toArray, List.set_cons_zero, List.set_cons_succ]
  refine held_take (i := 8) (v := ?_) rfl (by kernel_rfl) (by kernel_rfl) (by kernel_rfl) (fun _ _ _ h => h) (Or.inl ⟨by rfl, ?_⟩) (by assumption) ?_
  rotate_left
  · intro w hSw; (try dsimp only at hSw); go_simp; try with_reducible rfl
  try simp only [Act.put, List.setIfInBounds_toArray, List.set_cons_zero, List.set_cons_succ]
  refine held_take (i := 9) (v := ?_) rfl (by kernel_rfl) (by kernel_rfl) (by kernel_rfl) (fun _ _ _ h => h) (Or.inl ⟨by rfl, ?_⟩) (by assumption) ?_
  rotate_left
  · intro w hSw; (try dsimp only at hSw); go_simp; try with_reducible rfl
  try simp only [Act.put, List.setIfInBounds_toArray, List.set_cons_zero, List.set_cons_succ]
  refine held_ready (i := 10) rfl (by kernel_rfl) (fun K hK => ?_)
  go_simp
  refine (cs.out _ T1.out.drew).mono ?_
  rintro x w2 ⟨y, rfl, T2, B2⟩
  have F2 : w2.rangeAt b 1 (u8l m) ∧ w2.cell? ⟨b, 33, none⟩ = some (.int .u64 (n : Int)) := ⟨fun j v hv => (B2.cell (block_lt_of_cell (Md.out j v hv))).trans (Md.out j v hv), (B2.cell (block_lt_of_cell Nd.out)).trans Nd.out⟩
  have C2 : CountAt w2 c e (k + 1) := (B2.block c C1.out.lt).trans C1.out
  have U2 : Upd (fun i => i = c) w w2 := ⟨B2.os.trans U1.out.os, B2.tape.trans U1.out.tape, B2.output.trans U1.out.output, Nat.le_trans U1.out.size B2.size, fun i hi hs => (B2.block i (Nat.lt_of_lt_of_le hi U1.out.size)).trans (U1.out.block i hi hs)⟩
  replace F2 := Lib.hid F2
  replace C2 := Lib.hid C2
  replace U2 := Lib.hid U2
  replace T2 := Lib.hid T2
  clear B2
  refine hK.out _ _ (F2.out) (fun hHeldN => ?_)
  clear hHeld hK K
  have hHeld := hHeldN
  clear hHeldN
  try simp only [Act.put, List.setIfInBounds_toArray, List.set_cons_zero, List.set_cons_succ]
  refine held_take (i := 11) (v := ?_) rfl (by kernel_rfl) (by kernel_rfl) (by kernel_rfl) (fun _ _ _ h => h) (Or.inl ⟨by rfl, ?_⟩) (by assumption) ?_
  rotate_left
  · intro w hSw; (try dsimp only at hSw); go_simp; try with_reducible rfl
  try simp only [Act.put, List.setIfInBounds_toArray, List.set_cons_zero, List.set_cons_succ]
  refine held_take (i := 12) (v := ?_) rfl (by kernel_rfl) (by kernel_rfl) (by kernel_rfl) (fun _ _ _ h => h) (Or.inl ⟨by rfl, ?_⟩) (by assumption) ?_
  rotate_left
  · intro w hSw; (try dsimp only at hSw); go_simp; try with_reducible rfl
  try simp only [Act.put, List.setIfInBounds_toArray, List.set_cons_zero, List.set_cons_succ]
  refine held_take (i := 13) (v := ?_) rfl (by kernel_rfl) (by kernel_rfl) (by kernel_rfl) (fun _ _ _ h => h) (Or.inl ⟨by rfl, ?_⟩) (by assumption) ?_
  rotate_left
  · intro w hSw; (try dsimp only at hSw); go_simp; try with_reducible rfl
  try simp only [Act.put, List.setIfInBounds_toArray, List.set_cons_zero, List.set_cons_succ]
  refine held_take (i := 14) (v := ?_) rfl (by kernel_rfl) (by kernel_rfl) (by kernel_rfl) (fun _ _ _ h => h) (Or.inl ⟨by rfl, ?_⟩) (by assumption) ?_
  rotate_left
  · intro w hSw; (try dsimp only at hSw); go_simp; try with_reducible rfl
  try simp only [Act.put, List.setIfInBounds_toArray, List.set_cons_zero, List.set_cons_succ]
  refine held_take (i := 15) (v := ?_) rfl (by kernel_rfl) (by kernel_rfl) (by kernel_rfl) (fun _ _ _ h => h) (Or.inl ⟨by rfl, ?_⟩) (by assumption) ?_
  rotate_left
  · intro w hSw; (try dsimp only at hSw); go_simp; try with_reducible rfl
  try simp only [Act.put, List.setIfInBounds_toArray, List.set_cons_zero, List.set_cons_succ]
  refine wpAnyH_done (by kernel_rfl) ?_ _
  clear hHeld
  go_wp2_with fail
  go_ret3
  exact ⟨_, rfl, T2.out, C2.out, U2.out⟩
set_option maxRecDepth 100000 in
theorem sealm_form (w : World) (b : Nat) (m : List Nat) (n : Nat) (pc : Option Addr) (hS : SealerAt w b m n pc) (ao : Option Addr) (k cap : Nat) (hk : k ≠ 512) :
    Calls Try.prog 20 #[.pointer (some ⟨b, 0, none⟩), .slice ao k cap] w fun x w' => x = .returned (.tuple #[.int .u64 0, .slice none 0 0, .int .i64 3]) ∧ w = w' := by
  have c0 := hS.made
  have d : ((k : Int) == 512) = false := beq_eq_false_iff_ne.2 (by omega)
  replace hS := Lib.hid hS
  go_enter Try.func20, Try.ntmps20
  go_wp2_with fail
  go_ret3
  exact ⟨rfl, rfl⟩
set_option maxRecDepth 100000 in
theorem sealm_nil (w : World) (v : Value) :
    Calls Try.prog 20 #[.pointer none, v] w fun x w' => x = .returned (.tuple #[.int .u64 0, .slice none 0 0, .int .i64 6]) ∧ w = w' := by
  go_enter Try.func20, Try.ntmps20
  go_wp2_with fail
  go_ret3
  exact ⟨rfl, rfl⟩
set_option maxRecDepth 100000 in
theorem sealm_none (w : World) (b : Nat) (m : List Nat) (n : Nat) (lm : m.length = 32) (hS : SealerAt w b m n none) (ao : Option Addr) (cap : Nat) :
    Calls Try.prog 20 #[.pointer (some ⟨b, 0, none⟩), .slice ao 512 cap] w fun x w' => x = .returned (.tuple #[.int .u64 0, .slice none 0 0, .int .i64 6]) ∧ w = w' := by
  have c0 := hS.made
  have c34 := hS.count lm
  replace hS := Lib.hid hS
  replace lm := Lib.hid lm
  go_enter Try.func20, Try.ntmps20
  go_wp2_with fail
  refine (next_nil _).mono ?_
  rintro x _ ⟨rfl, rfl⟩
  go_wp2_with fail
  go_ret3
  exact ⟨rfl, rfl⟩
set_option maxRecDepth 100000 in
theorem openm_off (w : World) (b : Nat) (s : Int) (v : Value) (h : w.cell? ⟨b, 0, none⟩ = some (.bool false)) :
    Calls Try.prog 21 #[.pointer (some ⟨b, 0, none⟩), .int .u64 s, v] w fun x w' => x = .returned (.tuple #[.slice none 0 0, .int .i64 6]) ∧ w = w' := by
  go_enter Try.func21, Try.ntmps21
  go_wp2_with fail
  go_ret2
  exact ⟨rfl, rfl⟩
set_option maxRecDepth 100000 in
theorem openm_any (w : World) (b : Nat) (m : List Nat) (n s : Nat) (pc : Option Addr) (lm : m.length = 32) (sm : ∀ x ∈ m, x < 256) (hn : n < 18446744073709551616) (hS : SealerAt w b m n pc) (v : Value) (l : List Nat) (hl : TextAt w v l) :
    Calls Try.prog 21 #[.pointer (some ⟨b, 0, none⟩), .int .u64 (s : Int), v] w fun e w' => ∃ x, e = .returned (.tuple #[x, .int .i64 (slE l.length)]) ∧ TextAt w' x (slbackT m n s l) ∧ Below w.heap.size w w' := by
  have cs := Lib.hid (fun wx (h : TextAt wx v l) => sealback_any wx m n s lm sm hn v l h)
  have c0 := hS.made
  have Md : w.drew.rangeAt b 1 (u8l m) := hS.master
  have Nd : w.drew.cell? ⟨b, 33, none⟩ = some (.int .u64 (n : Int)) := hS.number lm
  have iM := infoKey lm
  generalize slbackT m n s l = T at *
  generalize slE l.length = E at *
  replace hS := Lib.hid hS
  replace lm := Lib.hid lm
  replace sm := Lib.hid sm
  replace hl := Lib.hid hl
  replace iM := Lib.hid iM
  replace Md := Lib.hid Md
  replace Nd := Lib.hid Nd
  go_enter Try.func21, Try.ntmps21
  go_wp2_with fail
  refine wp_region_held_drew (S := (fun w' => w'.rangeAt b 1 (u8l m) ∧ w'.cell? ⟨b, 33, none⟩ = some (.int .u64 (n : Int)))) (by kernel_rfl) (⟨Md.out, Nd.out⟩) (fun hHeld => ?_)
  refine held_take (i := 0) (v := ?_) rfl (by kernel_rfl) (by kernel_rfl) (by kernel_rfl) (fun _ _ _ h => h) (Or.inl ⟨by rfl, ?_⟩) (by assumption) ?_
  rotate_left
  · intro w hSw; (try dsimp only at hSw); go_simp; try with_reducible rfl
  try simp only [Act.put, List.setIfInBounds_toArray, List.set_cons_zero, List.set_cons_succ]
  refine held_take (i := 1) (v := ?_) rfl (by kernel_rfl) (by kernel_rfl) (by kernel_rfl) (fun _ _ _ h => h) (Or.inl ⟨by rfl, ?_⟩) (by assumption) ?_
  rotate_left
  · intro w hSw; (try dsimp only at hSw); go_simp; try with_reducible rfl
  try simp only [Act.put, List.setIfInBounds_toArray, List.set_cons_zero, List.set_cons_succ]
  refine held_take (i := 2) (v := ?_) rfl (by kernel_rfl) (by kernel_rfl) (by kernel_rfl) (fun _ _ _ h => h) (Or.inl ⟨by rfl, ?_⟩) (by assumption) ?_
  rotate_left
  · intro w hSw; (try dsimp only at hSw); go_simp; try with_reducible rfl
  try simp only [Act.put, List.setIfInBounds_toArray, List.set_cons_zero, List.set_cons_succ]
  refine held_take (i := 3) (v := _) rfl (by kernel_rfl) (by kernel_rfl) (by kernel_rfl) (fun _ _ _ h => h) (yieldsIf_part (by rfl) rfl rfl m Try.underlying23 iM.out (fun w' h => h.1)) (by assumption) ?_
  try simp only [Act.put, List.setIfInBounds_toArray, List.set_cons_zero, List.set_cons_succ]
  refine held_take (i := 4) (v := ?_) rfl (by kernel_rfl) (by kernel_rfl) (by kernel_rfl) (fun _ _ _ h => h) (Or.inl ⟨by rfl, ?_⟩) (by assumption) ?_
  rotate_left
  · intro w hSw; (try dsimp only at hSw); go_simp; try with_reducible rfl
  try simp only [Act.put, List.setIfInBounds_toArray, List.set_cons_zero, List.set_cons_succ]
  refine held_take (i := 5) (v := ?_) rfl (by kernel_rfl) (by kernel_rfl) (by kernel_rfl) (fun _ _ _ h => h) (Or.inl ⟨by rfl, ?_⟩) (by assumption) ?_
  rotate_left
  · intro w hSw; (try dsimp only at hSw); go_simp; try with_reducible rfl
  try simp only [Act.put, List.setIfInBounds_toArray, List.set_cons_zero, List.set_cons_succ]
  refine held_take (i := 6) (v := ?_) rfl (by kernel_rfl) (by kernel_rfl) (by kernel_rfl) (fun _ _ _ h => h) (Or.inl ⟨by rfl, ?_⟩) (by assumption) ?_
  rotate_left
  · intro w hSw; (try dsimp only at hSw); go_simp; try with_reducible rfl
  try simp only [Act.put, List.setIfInBounds_toArray, List.set_cons_zero, List.set_cons_succ]
  refine held_take (i := 7) (v := ?_) rfl (by kernel_rfl) (by kernel_rfl) (by kernel_rfl) (fun _ _ _ h => h) (Or.inl ⟨by rfl, ?_⟩) (by assumption) ?_
  rotate_left
  · intro w hSw; (try dsimp only at hSw); go_simp; try with_reducible rfl
  try simp only [Act.put, List.setIfInBounds_toArray, List.set_cons_zero, List.set_cons_succ]
  refine held_take (i := 8) (v := ?_) rfl (by kernel_rfl) (by kernel_rfl) (by kernel_rfl) (fun _ _ _ h => h) (Or.inl ⟨by rfl, ?_⟩) (by assumption) ?_
  rotate_left
  · intro w hSw; (try dsimp only at hSw); go_simp; try with_reducible rfl
  try simp only [Act.put, List.setIfInBounds_toArray, List.set_cons_zero, List.set_cons_succ]
  refine held_take (i := 9) (v := ?_) rfl (by kernel_rfl) (by kernel_rfl) (by kernel_rfl) (fun _ _ _ h => h) (Or.inl ⟨by rfl, ?_⟩) (by assumption) ?_
  rotate_left
  · intro w hSw; (try dsimp only at hSw); go_simp; try with_reducible rfl
  try simp only [Act.put, List.setIfInBounds_toArray, List.set_cons_zero, List.set_cons_succ]
  refine held_ready (i := 10) rfl (by kernel_rfl) (fun K hK => ?_)
  go_simp
  refine (cs.out _ hl.out.drew).mono ?_
  rintro x w2 ⟨y, rfl, T2, B2⟩
  have F2 : w2.rangeAt b 1 (u8l m) ∧ w2.cell? ⟨b, 33, none⟩ = some (.int .u64 (n : Int)) := ⟨fun j v hv => (B2.cell (block_lt_of_cell (Md.out j v hv))).trans (Md.out j v hv), (B2.cell (block_lt_of_cell Nd.out)).trans Nd.out⟩
  have L2 : Below w.heap.size w w2 := ((Below.refl _ w).drew).trans B2
  replace F2 := Lib.hid F2
  replace L2 := Lib.hid L2
  replace T2 := Lib.hid T2
  clear B2
  refine hK.out _ _ (F2.out) (fun hHeldN => ?_)
  clear hHeld hK K
  have hHeld := hHeldN
  clear hHeldN
  try simp only [Act.put, List.setIfInBounds_toArray, List.set_cons_zero, List.set_cons_succ]
  refine held_take (i := 11) (v := ?_) rfl (by kernel_rfl) (by kernel_rfl) (by kernel_rfl) (fun _ _ _ h => h) (Or.inl ⟨by rfl, ?_⟩) (by assumption) ?_
  rotate_left
  · intro w hSw; (try dsimp only at hSw); go_simp; try with_reducible rfl
  try simp only [Act.put, List.setIfInBounds_toArray, List.set_cons_zero, List.set_cons_succ]
  refine held_take (i := 12) (v := ?_) rfl (by kernel_rfl) (by kernel_rfl) (by kernel_rfl) (fun _ _ _ h => h) (Or.inl ⟨by rfl, ?_⟩) (by assumption) ?_
  rotate_left
  · intro w hSw; (try dsimp only at hSw); go_simp; try with_reducible rfl
  try simp only [Act.put, List.setIfInBounds_toArray, List.set_cons_zero, List.set_cons_succ]
  refine held_take (i := 13) (v := ?_) rfl (by kernel_rfl) (by kernel_rfl) (by kernel_rfl) (fun _ _ _ h => h) (Or.inl ⟨by rfl, ?_⟩) (by assumption) ?_
  rotate_left
  · intro w hSw; (try dsimp only at hSw); go_simp; try with_reducible rfl
  try simp only [Act.put, List.setIfInBounds_toArray, List.set_cons_zero, List.set_cons_succ]
  refine held_take (i := 14) (v := ?_) rfl (by kernel_rfl) (by kernel_rfl) (by kernel_rfl) (fun _ _ _ h => h) (Or.inl ⟨by rfl, ?_⟩) (by assumption) ?_
  rotate_left
  · intro w hSw; (try dsimp only at hSw); go_simp; try with_reducible rfl
  try simp only [Act.put, List.setIfInBounds_toArray, List.set_cons_zero, List.set_cons_succ]
  refine wpAnyH_done (by kernel_rfl) ?_ _
  clear hHeld
  go_wp2_with fail
  go_ret2
  exact ⟨_, rfl, T2.out, L2.out⟩
end Go.Proofs.Ytecmagenlbnchaa
namespace Go.Proofs.Ytecmagenlbnchaa
set_option maxRecDepth 100000
open Go.RowKit

theorem below_drewN (w : World) (n : Nat) : Below w.heap.size w (w.drewN n) := ⟨rfl, rfl, rfl, Nat.le_refl _, fun _ _ => rfl⟩
theorem infoU64' : (Try.prog.info? 24).map (fun i => (i.zero, i.size, i.bytes)) = some (some (.int .u64 0), 1, 8) := by kernel_rfl
theorem infoPS : (Try.prog.info? 39).map (fun i => (i.zero, i.size, i.bytes)) = some (some (.pointer none), 1, 8) := by kernel_rfl
/-- A slice of numbers. -/
def U64sAt (w : World) (ao : Option Addr) (len : Nat) (es : Nat → Nat) : Prop := ∀ i, i < len → es i < 18446744073709551616 ∧ ∃ ob oo, ao = some ⟨ob, oo, none⟩ ∧ w.cell? ⟨ob, oo + i, none⟩ = some (.int .u64 (es i : Int))
/-- The pointers to sealers. -/
def ptrL (ss : Nat → Nat) (n : Nat) : List Value := (List.range n).map fun q => .pointer (some ⟨ss q, 0, none⟩)
theorem length_ptrL (ss : Nat → Nat) (n : Nat) : (ptrL ss n).length = n := by simp [ptrL]
theorem ptrL_get {ss : Nat → Nat} {n q : Nat} (h : q < n) : (ptrL ss n)[q]? = some (.pointer (some ⟨ss q, 0, none⟩)) := by simp [ptrL, h]
theorem ptr_at {w : World} {base n : Nat} {ss : Nat → Nat} {v : Value} (h : Own w base 39 v (ptrL ss n)) : ∃ ao cap, v = .slice ao n cap ∧ n ≤ cap ∧ ∀ q, q < n → ∃ g, ao = some ⟨g, 0, none⟩ ∧ w.cell? ⟨g, q, none⟩ = some (.pointer (some ⟨ss q, 0, none⟩)) := by
  obtain ⟨ao, cap, e, h1, _, _, _, hc⟩ := h.form
  rw [length_ptrL] at e h1
  refine ⟨ao, cap, e, h1, fun q hq => ?_⟩
  obtain ⟨g, e1, e2, _⟩ := hc q _ (ptrL_get hq)
  exact ⟨g, e1, e2⟩
theorem nums_at {w : World} {base : Nat} {xs : List Nat} {v : Value} (h : Own w base 24 v (xs.map fun (x : Nat) => Value.int .u64 (x : Int))) : ∃ ao cap, v = .slice ao xs.length cap ∧ ∀ q, q < xs.length → ∃ g, ao = some ⟨g, 0, none⟩ ∧ w.cell? ⟨g, q, none⟩ = some (.int .u64 (xs.getD q 0 : Int)) := by
  obtain ⟨ao, cap, e, h1, _, _, _, hc⟩ := h.form
  rw [List.length_map] at e h1
  refine ⟨ao, cap, e, fun q hq => ?_⟩
  obtain ⟨g, e1, e2, _⟩ := hc q (.int .u64 (xs.getD q 0 : Int)) (by simp [hq])
  exact ⟨g, e1, e2⟩
/-- What SealOnce keeps behind i epochs. -/
structure OnSt (w wr : World) (es : Nat → Nat) (i : Nat) (cs ss cnt : Nat → Nat) (v : Value) : Prop where
  c : ∀ j, j < i → CountAt wr (cs j) (es j) (cnt j)
  s : ∀ q, q < 2 * i → SealerAt wr (ss q) (key1 1) (7 + q % 2) (some ⟨cs (q / 2), 0, none⟩)
  o : Own wr w.heap.size 39 v (ptrL ss (2 * i))
  low : Below w.heap.size w wr
  ep : ∀ j, j < i → es j < 16777216
  far : ∀ j, j < i → w.heap.size ≤ cs j
section
variable {w wr w2 : World} {es : Nat → Nat} {i : Nat} {cs ss cnt : Nat → Nat} {v v2 : Value}
theorem Own.type {w : World} {base : Nat} {e : TypeId} {v : Value} {xs : List Value} (h : Own w base e v xs) {g : Nat} (hg : v.ownBlock = some g) : ∃ cur, w.heap[g]? = some (.cells cur e (0, 0)) := by
  rcases h.2 with ⟨rfl, _⟩ | ⟨g', cap, cur, rfl, _, hgg, _⟩
  · simp [Value.ownBlock] at hg
  · simp [Value.ownBlock] at hg; subst hg; exact ⟨cur, hgg⟩
theorem OnSt.c_ne (h : OnSt w wr es i cs ss cnt v) {j : Nat} (hj : j < i) {g : Nat} {t : TypeId} {cur : Array Value} {fr : Nat × Nat} (hg : wr.heap[g]? = some (.cells cur t fr)) (ht : t ≠ 71) : cs j ≠ g := fun e => by
  have := h.c j hj
  unfold CountAt at this
  rw [e, hg] at this
  injection this with this
  injection this with _ h2 _
  exact ht h2
theorem OnSt.s_ne (h : OnSt w wr es i cs ss cnt v) {q : Nat} (hq : q < 2 * i) {g : Nat} {t : TypeId} {cur : Array Value} {fr : Nat × Nat} (hg : wr.heap[g]? = some (.cells cur t fr)) (ht : t ≠ 47) : ss q ≠ g := fun e => by
  have := h.s q hq
  unfold SealerAt at this
  rw [e, hg] at this
  injection this with this
  injection this with _ h2 _
  exact ht h2
theorem OnSt.o_ne (h : OnSt w wr es i cs ss cnt v) {g : Nat} {t : TypeId} {cur : Array Value} {fr : Nat × Nat} (hg : wr.heap[g]? = some (.cells cur t fr)) (ht : t ≠ 39) : ∀ k, v.ownBlock = some k → k ≠ g := fun k hk e => by
  obtain ⟨cur', hc⟩ := h.o.type hk
  rw [e, hg] at hc
  injection hc with hc
  injection hc with _ h2 _
  exact ht h2
/-- Where blocks of another kind turn. -/
theorem OnSt.keep (h : OnSt w wr es i cs ss cnt v) {S : Nat → Prop} (hU : Upd S wr w2) (hS : ∀ g cur t fr, S g → wr.heap[g]? = some (.cells cur t fr) → t ≠ 71 ∧ t ≠ 47 ∧ t ≠ 39) (hlow : ∀ k, k < w.heap.size → ¬ S k) : OnSt w w2 es i cs ss cnt v :=
  ⟨fun j hj => (hU.block _ (h.c j hj).lt fun hs => (hS _ _ _ _ hs (h.c j hj)).1 rfl).trans (h.c j hj),
   fun q hq => (hU.block _ (h.s q hq).lt fun hs => (hS _ _ _ _ hs (h.s q hq)).2.1 rfl).trans (h.s q hq),
   h.o.other fun k hk => hU.block k (h.o.lt k hk).2 fun hs => by
     obtain ⟨cur, hc⟩ := h.o.type hk
     exact (hS _ _ _ _ hs hc).2.2 rfl,
   h.low.trans (hU.below hlow h.low.size), h.ep, h.far⟩
theorem OnSt.below (h : OnSt w wr es i cs ss cnt v) (hB : Below wr.heap.size wr w2) : OnSt w w2 es i cs ss cnt v :=
  h.keep (S := fun _ => False) (Upd.of_below hB) (fun _ _ _ _ h => h.elim) (fun _ _ h => h)
theorem OnSt.inj (h : OnSt w wr es i cs ss cnt v) (hd : ∀ j k, j < i → k < i → j ≠ k → es j ≠ es k) {j k : Nat} (hj : j < i) (hk : k < i) (e : cs j = cs k) : j = k := by
  rcases Nat.decEq j k with hn | he
  · exfalso
    have h1 := h.c j hj
    have h2 := h.c k hk
    unfold CountAt at h1 h2
    rw [e, h2] at h1
    injection h1 with h1
    injection h1 with h1 _ _
    have h3 : (Value.int .u64 (es k : Int)) = .int .u64 (es j : Int) := by
      have := congrArg (fun a : Array Value => a[1]?) h1
      simpa using this
    injection h3 with _ h3
    exact hd j k hj hk hn (by omega)
  · exact he
/-- A counter tells a stamp. -/
theorem OnSt.next (h : OnSt w wr es i cs ss cnt v) (hd : ∀ j k, j < i → k < i → j ≠ k → es j ≠ es k) {j : Nat} (hj : j < i) (hC : CountAt w2 (cs j) (es j) (cnt j + 1)) (hU : Upd (fun b => b = cs j) wr w2) : OnSt w w2 es i cs ss (fun k => if k = j then cnt j + 1 else cnt k) v :=
  ⟨fun k hk => by
     by_cases e : k = j
     · subst e; rw [if_pos rfl]; exact hC
     · rw [if_neg e]
       exact (hU.block _ (h.c k hk).lt fun hs => e (h.inj hd hk hj hs)).trans (h.c k hk),
   fun q hq => (hU.block _ (h.s q hq).lt fun hs => h.s_ne hq (h.c j hj) (by decide) hs).trans (h.s q hq),
   h.o.other fun k hk => hU.block k (h.o.lt k hk).2 fun hs => h.o_ne (h.c j hj) (by decide) k hk hs,
   h.low.trans (hU.below (fun k hk e => by have := h.far j hj; omega) h.low.size), h.ep, h.far⟩
/-- A counter and two sealers more. -/
theorem OnSt.add {v5 : Value} {w5 : World} {b1 b2 c : Nat} (h : OnSt w wr es i cs ss cnt v) (hC : CountAt wr c (es i) 0) (h1 : SealerAt wr b1 (key1 1) 7 (some ⟨c, 0, none⟩)) (h2 : SealerAt wr b2 (key1 1) 8 (some ⟨c, 0, none⟩)) (he : es i < 16777216) (hc : w.heap.size ≤ c)
    (O : Own w5 w.heap.size 39 v5 (ptrL ss (2 * i) ++ [.pointer (some ⟨b1, 0, none⟩), .pointer (some ⟨b2, 0, none⟩)])) (G : wr.grownBy w5 v.ownBlock) :
    OnSt w w5 es (i + 1) (fun j => if j = i then c else cs j) (fun q => if q = 2 * i then b1 else if q = 2 * i + 1 then b2 else ss q) (fun j => if j = i then 0 else cnt j) v5 := by
  have hp : ptrL (fun q => if q = 2 * i then b1 else if q = 2 * i + 1 then b2 else ss q) (2 * (i + 1)) = ptrL ss (2 * i) ++ [.pointer (some ⟨b1, 0, none⟩), .pointer (some ⟨b2, 0, none⟩)] := by
    unfold ptrL
    rw [show 2 * (i + 1) = 2 * i + 1 + 1 by omega, List.range_succ, List.range_succ]
    simp only [List.map_append, List.map_cons, List.map_nil, if_pos, List.append_assoc, List.cons_append, List.nil_append]
    rw [if_neg (show ¬ 2 * i + 1 = 2 * i by omega)]
    congr 1
    refine List.map_congr_left fun q hq => ?_
    have := List.mem_range.1 hq
    rw [if_neg (by omega), if_neg (by omega)]
  have keep : ∀ (g : Nat) (cur : Array Value) (t : TypeId) (fr : Nat × Nat), wr.heap[g]? = some (Obj.cells cur t fr) → t ≠ 39 → w5.heap[g]? = some (Obj.cells cur t fr) := fun g cur t fr hg ht =>
    (G.block g (lt_of_block hg) fun e => h.o_ne hg ht g e.symm rfl).trans hg
  refine ⟨fun j hj => ?_, fun q hq => ?_, by rw [hp]; exact O, h.low.trans ⟨G.os, G.tape, G.output, G.size, fun k hk => G.block k (Nat.lt_of_lt_of_le hk h.low.size) fun e => by have := (h.o.lt k e.symm).1; omega⟩, fun j hj => ?_, fun j hj => ?_⟩
  · show CountAt w5 (if j = i then c else cs j) (es j) (if j = i then 0 else cnt j)
    by_cases e : j = i
    · subst e; rw [if_pos rfl, if_pos rfl]; exact keep _ _ _ _ hC (by decide)
    · rw [if_neg e, if_neg e]; exact keep _ _ _ _ (h.c j (by omega)) (by decide)
  · show SealerAt w5 (if q = 2 * i then b1 else if q = 2 * i + 1 then b2 else ss q) (key1 1) (7 + q % 2) (some ⟨if q / 2 = i then c else cs (q / 2), 0, none⟩)
    by_cases e1 : q = 2 * i
    · subst e1
      rw [if_pos rfl, show 2 * i % 2 = 0 by omega, if_pos (by omega)]
      exact keep _ _ _ _ h1 (by decide)
    · rw [if_neg e1]
      by_cases e2 : q = 2 * i + 1
      · subst e2
        rw [if_pos rfl, show (2 * i + 1) % 2 = 1 by omega, if_pos (by omega)]
        exact keep _ _ _ _ h2 (by decide)
      · rw [if_neg e2, if_neg (by omega)]
        exact keep _ _ _ _ (h.s q (by omega)) (by decide)
  · by_cases e : j = i
    · subst e; exact he
    · exact h.ep j (by omega)
  · show w.heap.size ≤ (if j = i then c else cs j)
    by_cases e : j = i
    · rw [if_pos e]; exact hc
    · rw [if_neg e]; exact h.far j (by omega)
/-- The stamps seen. -/
structure SeenSt (w wr : World) (es cnt : Nat → Nat) (L : Nat) (u : Value) (xs : List Nat) : Prop where
  o : Own wr w.heap.size 24 u (xs.map fun (x : Nat) => Value.int .u64 (x : Int))
  ok : ∀ x ∈ xs, ∃ j c, j < L ∧ 1 ≤ c ∧ c ≤ cnt j ∧ x = stampOf (es j) c
theorem SeenSt.keep {L : Nat} {u : Value} {xs : List Nat} (h : SeenSt w wr es cnt L u xs) {S : Nat → Prop} (hU : Upd S wr w2) (hS : ∀ g cur t fr, S g → wr.heap[g]? = some (.cells cur t fr) → t ≠ 24) : SeenSt w w2 es cnt L u xs :=
  ⟨h.o.other fun k hk => hU.block k (h.o.lt k hk).2 fun hs => by
     obtain ⟨cur, hc⟩ := h.o.type hk
     exact hS _ _ _ _ hs hc rfl, h.ok⟩
theorem SeenSt.below {L : Nat} {u : Value} {xs : List Nat} (h : SeenSt w wr es cnt L u xs) (hB : Below wr.heap.size wr w2) : SeenSt w w2 es cnt L u xs :=
  h.keep (S := fun _ => False) (Upd.of_below hB) (fun _ _ _ _ h => h.elim)
theorem SeenSt.next {L j : Nat} {u : Value} {xs : List Nat} (h : SeenSt w wr es cnt L u xs) (hj : j < L) : SeenSt w wr es (fun k => if k = j then cnt j + 1 else cnt k) L u xs ∧ ∀ x ∈ xs, (∀ a b, a < L → b < L → a ≠ b → es a ≠ es b) → cnt j < 100 → (∀ k, k < L → cnt k < 100) → x ≠ stampOf (es j) (cnt j + 1) := by
  refine ⟨⟨h.o, fun x hx => ?_⟩, fun x hx hd h1 h2 e => ?_⟩
  · obtain ⟨k, c, hk, c1, c2, e⟩ := h.ok x hx
    refine ⟨k, c, hk, c1, ?_, e⟩
    show c ≤ (if k = j then cnt j + 1 else cnt k)
    by_cases ek : k = j
    · subst ek; rw [if_pos rfl]; omega
    · rw [if_neg ek]; exact c2
  · obtain ⟨k, c, hk, c1, c2, e2⟩ := h.ok x hx
    rw [e2] at e
    have hck := h2 k hk
    obtain ⟨q1, q2⟩ := (stamp_inj (a := es k) (b := c) (c := es j) (d := cnt j + 1) (by omega) (by omega)).1 e
    by_cases ek : k = j
    · subst ek; omega
    · exact hd k j hk hj ek q1
theorem SeenSt.count {L j : Nat} {u : Value} {xs : List Nat} {c e k : Nat} (h : SeenSt w wr es cnt L u xs) (hC : CountAt wr c e k) (hU : Upd (fun i => i = c) wr w2) (_hj : j < L) : SeenSt w w2 es cnt L u xs :=
  h.keep hU fun g cur t fr hg hc ht => by
    subst hg
    unfold CountAt at hC
    rw [hC] at hc
    injection hc with hc
    injection hc with _ h2 _
    rw [ht] at h2
    exact absurd h2 (by decide)
theorem SeenSt.add {L j : Nat} {u u2 : Value} {xs : List Nat} (h : SeenSt w wr es cnt L u xs) (hj : j < L) {c : Nat} (c1 : 1 ≤ c) (c2 : c ≤ cnt j) (O : Own w2 w.heap.size 24 u2 ((xs.map fun (x : Nat) => Value.int .u64 (x : Int)) ++ [.int .u64 ((stampOf (es j) c : Nat) : Int)])) : SeenSt w w2 es cnt L u2 (xs ++ [stampOf (es j) c]) :=
  ⟨by rw [List.map_append]; exact O, fun x hx => by
    rcases List.mem_append.1 hx with h1 | h1
    · exact h.ok x h1
    · exact ⟨j, c, hj, c1, c2, by simpa using h1⟩⟩
theorem OnSt.grown {u : Value} (h : OnSt w wr es i cs ss cnt v) (G : wr.grownBy w2 u.ownBlock) (hu : ∀ k, u.ownBlock = some k → w.heap.size ≤ k ∧ ∃ cur, wr.heap[k]? = some (.cells cur 24 (0, 0))) : OnSt w w2 es i cs ss cnt v :=
  h.keep (S := fun k => u.ownBlock = some k) ((Upd.refl _ _).grown G (fun k e _ => e)) (fun g cur t fr hg hc => by
    obtain ⟨cur', hc'⟩ := (hu g hg).2
    rw [hc] at hc'
    injection hc' with hc'
    injection hc' with _ h2 _
    subst h2
    exact ⟨by decide, by decide, by decide⟩) (fun k hk e => by have := (hu k e).1; omega)
end
end Go.Proofs.Ytecmagenlbnchaa
namespace Go.Proofs.Ytecmagenlbnchaa
set_option maxRecDepth 100000
open Go.RowKit

theorem two_cells {w : World} {x y : Value} {t : TypeId} : ∀ j u, [x, y][j]? = some u → ∃ ad, some (⟨w.heap.size, 0, none⟩ : Addr) = some ad ∧ (w.alloc (.cells #[x, y] t)).cell? (ad.add j) = some u := fun j u h => by
  refine ⟨_, rfl, ?_⟩
  rw [Addr.add_lit, Nat.zero_add, cell_of_row _ _ _ _ _ _ (heap_alloc_new _ _)]
  simpa using h
set_option maxHeartbeats 8000000 in
set_option maxRecDepth 100000 in
theorem sealOnce_law (w : World) (ao : Option Addr) (L cap : Nat) (es : Nat → Nat) (hes : U64sAt w ao L es) (vt : Option Addr) (T ct : Nat) (t : List Nat) (et : t.length = T) (ht : TextAt w (.slice vt T ct) t) (hL : L < 9223372036854775808) (hT : T < 9223372036854775808) :
    Calls Try.prog 6 #[.slice ao L cap, .slice vt T ct] w fun x w' => x = .returned (.bool true) ∧ Below w.heap.size w w' := by
  have al := Lib.hid (fun wx => alive22 wx)
  have k1 := key1_length 1
  have k2 := key1_small (n := 1) (by decide)
  have bk := built_key1
  replace k1 := Lib.hid k1
  replace k2 := Lib.hid k2
  replace bk := Lib.hid bk
  replace hes := Lib.hid hes
  replace et := Lib.hid et
  replace ht := Lib.hid ht
  by_cases hL6 : 6 < L
  · have d : decide ((L : Int) > 6) = true := decide_eq_true (by omega)
    go_enter Try.func6, Try.ntmps6
    go_wp2_with fail
    refine (al.out _).mono ?_
    rintro x w2 ⟨rfl, B2⟩
    replace B2 := Lib.hid B2
    go_wp2_with fail
    go_ret
    exact ⟨rfl, B2.out⟩
  have d6 : decide ((L : Int) > 6) = false := decide_eq_false (by omega)
  by_cases hT12 : 12 < T
  · have d : decide ((T : Int) > 12) = true := decide_eq_true (by omega)
    go_enter Try.func6, Try.ntmps6
    go_wp2_with fail
    refine (al.out _).mono ?_
    rintro x w2 ⟨rfl, B2⟩
    replace B2 := Lib.hid B2
    go_wp2_with fail
    go_ret
    exact ⟨rfl, B2.out⟩
  have d12 : decide ((T : Int) > 12) = false := decide_eq_false (by omega)
  go_enter Try.func6, Try.ntmps6
  go_wp2_with fail
  have st0 : OnSt w w es 0 (fun _ => 0) (fun _ => 0) (fun _ => 0) (.slice none 0 0) :=
    ⟨fun j hj => by omega, fun q hq => by omega, by simpa [ptrL] using Own.nil w w.heap.size 39, Below.refl _ _, fun j hj => by omega, fun j hj => by omega⟩
  replace st0 := Lib.hid st0
  go_loopw [5, 6] (fun sv iv wr => ∃ i : Nat, i ≤ L ∧ iv = .int .i64 i ∧ (∀ j k, j < i → k < i → j ≠ k → es j ≠ es k) ∧ ∃ cs ss, OnSt w wr es i cs ss (fun _ => 0) sv) (fun _ iv _ => L - (intOf iv).toNat)
  case atStart => exact ⟨0, Nat.zero_le _, rfl, fun j k hj => by omega, _, _, st0.out⟩
  case round =>
    obtain ⟨i, hi, rfl, hd, cs, ss, hst⟩ := hrel
    clear st0
    by_cases hlt : i < L
    · obtain ⟨be, ob, oo, rfl, hci⟩ := hes.out i hlt
      have dli : decide ((i : Int) < (L : Int)) = true := decide_eq_true (by omega)
      have dln : decide (i < L) = true := decide_eq_true hlt
      replace hd := Lib.hid hd
      replace hst := Lib.hid hst
      go_wp2_with fail
      obtain ⟨wo, rfl⟩ : ∃ wo : World, wo = wr := ⟨_, rfl⟩
      go_loopw [7] (fun kv wr => ∃ k : Nat, k ≤ i ∧ kv = .int .i64 k ∧ (∀ j, j < k → es j ≠ es i) ∧ ∃ d, wr = wo.drewN d) (fun kv _ => i - (intOf kv).toNat)
      case atStart => exact ⟨0, Nat.zero_le _, rfl, fun j hj => by omega, 0, rfl⟩
      case round =>
        obtain ⟨k, hk, rfl, hne, d, rfl⟩ := hrel
        by_cases hki : k < i
        · obtain ⟨-, ob', oo', e', hck⟩ := hes.out k (by omega)
          obtain ⟨rfl, rfl⟩ : ob = ob' ∧ oo = oo' := by injection e' with e'; injection e' with e1 e2; exact ⟨e1, e2⟩
          have f1 : (wo.drewN d).cell? ⟨ob, oo + k, none⟩ = some (.int .u64 (es k : Int)) := (hst.out.low.cell (block_lt_of_cell hck)).trans hck
          have f2 : (wo.drewN d).cell? ⟨ob, oo + i, none⟩ = some (.int .u64 (es i : Int)) := (hst.out.low.cell (block_lt_of_cell hci)).trans hci
          have g1 : (k : Int) < (L : Int) := by omega
          have hst2 := Lib.hid (hst.out.below (w2 := (wo.drewN d).drew) (below_drewN _ _).drew)
          clear e' hck
          generalize hX : es k = X at *
          generalize hY : es i = Y at *
          replace hX := Lib.hid hX
          replace hY := Lib.hid hY
          replace hne := Lib.hid hne
          by_cases hxy : X = Y
          · have e1 : ((X : Int) == (Y : Int)) = true := beq_iff_eq.2 (by omega)
            go_wp2_with fail
            refine wp_region_held_drew (S := (fun w' => w'.cell? ⟨ob, oo + k, none⟩ = some (.int .u64 (X : Int)) ∧ w'.cell? ⟨ob, oo + i, none⟩ = some (.int .u64 (Y : Int)))) (by kernel_rfl) (⟨f1, f2⟩) (fun hHeld => ?_)
            refine held_take (i := 0) (v := ?_) rfl (by kernel_rfl) (by kernel_rfl) (by kernel_rfl) (fun _ _ _ h => h) (Or.inl ⟨by rfl, ?_⟩) (by assumption) ?_
            rotate_left
            · intro w hSw; (try dsimp only at hSw); go_simp; try with_reducible rfl
            try simp only [Act.put, List.setIfInBounds_toArray, List.set_cons_zero, List.set_cons_succ]
            refine held_take (i := 1) (v := ?_) rfl (by kernel_rfl) (by kernel_rfl) (by kernel_rfl) (fun _ _ _ h => h) (Or.inl ⟨by rfl, ?_⟩) (by assumption) ?_
            rotate_left
            · intro w hSw; (try dsimp only at hSw); go_simp; try with_reducible rfl
            try simp only [Act.put, List.setIfInBounds_toArray, List.set_cons_zero, List.set_cons_succ]
            refine held_take (i := 2) (v := ?_) rfl (by kernel_rfl) (by kernel_rfl) (by kernel_rfl) (fun _ _ _ h => h) (Or.inl ⟨by rfl, ?_⟩) (by assumption) ?_
            rotate_left
            · intro w hSw; (try dsimp only at hSw); go_simp; try with_reducible rfl
            try simp only [Act.put, List.setIfInBounds_toArray, List.set_cons_zero, List.set_cons_succ]
            refine held_take (i := 3) (v := ?_) rfl (by kernel_rfl) (by kernel_rfl) (by kernel_rfl) (fun _ _ _ h => h) (Or.inl ⟨by rfl, ?_⟩) (by assumption) ?_
            rotate_left
            · intro w hSw; (try dsimp only at hSw); go_simp; try with_reducible rfl
            try simp only [Act.put, List.setIfInBounds_toArray, List.set_cons_zero, List.set_cons_succ]
            refine held_take (i := 4) (v := ?_) rfl (by kernel_rfl) (by kernel_rfl) (by kernel_rfl) (fun _ _ _ h => h) (Or.inl ⟨by rfl, ?_⟩) (by assumption) ?_
            rotate_left
            · intro w hSw; (try dsimp only at hSw); go_simp; try with_reducible rfl
            try simp only [Act.put, List.setIfInBounds_toArray, List.set_cons_zero, List.set_cons_succ]
            refine held_take (i := 5) (v := ?_) rfl (by kernel_rfl) (by kernel_rfl) (by kernel_rfl) (fun _ _ _ h => h) (Or.inl ⟨by rfl, ?_⟩) (by assumption) ?_
            rotate_left
            · intro w hSw; (try dsimp only at hSw); go_simp; try with_reducible rfl
            try simp only [Act.put, List.setIfInBounds_toArray, List.set_cons_zero, List.set_cons_succ]
            refine held_take (i := 6) (v := ?_) rfl (by kernel_rfl) (by kernel_rfl) (by kernel_rfl) (fun _ _ _ h => h) (Or.inl ⟨by rfl, ?_⟩) (by assumption) ?_
            rotate_left
            · intro w hSw; (try dsimp only at hSw); go_simp; try with_reducible rfl
            try simp only [Act.put, List.setIfInBounds_toArray, List.set_cons_zero, List.set_cons_succ]
            refine held_take (i := 7) (v := ?_) rfl (by kernel_rfl) (by kernel_rfl) (by kernel_rfl) (fun _ _ _ h => h) (Or.inl ⟨by rfl, ?_⟩) (by assumption) ?_
            rotate_left
            · intro w hSw; (try dsimp only at hSw); go_simp; try with_reducible rfl
            try simp only [Act.put, List.setIfInBounds_toArray, List.set_cons_zero, List.set_cons_succ]
            refine held_take (i := 8) (v := ?_) rfl (by kernel_rfl) (by kernel_rfl) (by kernel_rfl) (fun _ _ _ h => h) (Or.inl ⟨by rfl, ?_⟩) (by assumption) ?_
            rotate_left
            · intro w hSw; (try dsimp only at hSw); go_simp; try with_reducible rfl
            try simp only [Act.put, List.setIfInBounds_toArray, List.set_cons_zero, List.set_cons_succ]
            refine wpAnyH_done (by kernel_rfl) ?_ _
            clear hHeld
            go_wp2_with fail
            refine (al.out _).mono ?_
            rintro x w2 ⟨rfl, B2⟩
            have low := hst2.out.low.trans (B2.mono hst2.out.low.size)
            replace low := Lib.hid low
            go_wp2_with fail
            go_ret
            exact ⟨rfl, low.out⟩
          · have e1 : ((X : Int) == (Y : Int)) = false := beq_eq_false_iff_ne.2 (by omega)
            go_wp2_with fail
            refine wp_region_held_drew (S := (fun w' => w'.cell? ⟨ob, oo + k, none⟩ = some (.int .u64 (X : Int)) ∧ w'.cell? ⟨ob, oo + i, none⟩ = some (.int .u64 (Y : Int)))) (by kernel_rfl) (⟨f1, f2⟩) (fun hHeld => ?_)
            refine held_take (i := 0) (v := ?_) rfl (by kernel_rfl) (by kernel_rfl) (by kernel_rfl) (fun _ _ _ h => h) (Or.inl ⟨by rfl, ?_⟩) (by assumption) ?_
            rotate_left
            · intro w hSw; (try dsimp only at hSw); go_simp; try with_reducible rfl
            try simp only [Act.put, List.setIfInBounds_toArray, List.set_cons_zero, List.set_cons_succ]
            refine held_take (i := 1) (v := ?_) rfl (by kernel_rfl) (by kernel_rfl) (by kernel_rfl) (fun _ _ _ h => h) (Or.inl ⟨by rfl, ?_⟩) (by assumption) ?_
            rotate_left
            · intro w hSw; (try dsimp only at hSw); go_simp; try with_reducible rfl
            try simp only [Act.put, List.setIfInBounds_toArray, List.set_cons_zero, List.set_cons_succ]
            refine held_take (i := 2) (v := ?_) rfl (by kernel_rfl) (by kernel_rfl) (by kernel_rfl) (fun _ _ _ h => h) (Or.inl ⟨by rfl, ?_⟩) (by assumption) ?_
            rotate_left
            · intro w hSw; (try dsimp only at hSw); go_simp; try with_reducible rfl
            try simp only [Act.put, List.setIfInBounds_toArray, List.set_cons_zero, List.set_cons_succ]
            refine held_take (i := 3) (v := ?_) rfl (by kernel_rfl) (by kernel_rfl) (by kernel_rfl) (fun _ _ _ h => h) (Or.inl ⟨by rfl, ?_⟩) (by assumption) ?_
            rotate_left
            · intro w hSw; (try dsimp only at hSw); go_simp; try with_reducible rfl
            try simp only [Act.put, List.setIfInBounds_toArray, List.set_cons_zero, List.set_cons_succ]
            refine held_take (i := 4) (v := ?_) rfl (by kernel_rfl) (by kernel_rfl) (by kernel_rfl) (fun _ _ _ h => h) (Or.inl ⟨by rfl, ?_⟩) (by assumption) ?_
            rotate_left
            · intro w hSw; (try dsimp only at hSw); go_simp; try with_reducible rfl
            try simp only [Act.put, List.setIfInBounds_toArray, List.set_cons_zero, List.set_cons_succ]
            refine held_take (i := 5) (v := ?_) rfl (by kernel_rfl) (by kernel_rfl) (by kernel_rfl) (fun _ _ _ h => h) (Or.inl ⟨by rfl, ?_⟩) (by assumption) ?_
            rotate_left
            · intro w hSw; (try dsimp only at hSw); go_simp; try with_reducible rfl
            try simp only [Act.put, List.setIfInBounds_toArray, List.set_cons_zero, List.set_cons_succ]
            refine held_take (i := 6) (v := ?_) rfl (by kernel_rfl) (by kernel_rfl) (by kernel_rfl) (fun _ _ _ h => h) (Or.inl ⟨by rfl, ?_⟩) (by assumption) ?_
            rotate_left
            · intro w hSw; (try dsimp only at hSw); go_simp; try with_reducible rfl
            try simp only [Act.put, List.setIfInBounds_toArray, List.set_cons_zero, List.set_cons_succ]
            refine held_take (i := 7) (v := ?_) rfl (by kernel_rfl) (by kernel_rfl) (by kernel_rfl) (fun _ _ _ h => h) (Or.inl ⟨by rfl, ?_⟩) (by assumption) ?_
            rotate_left
            · intro w hSw; (try dsimp only at hSw); go_simp; try with_reducible rfl
            try simp only [Act.put, List.setIfInBounds_toArray, List.set_cons_zero, List.set_cons_succ]
            refine held_take (i := 8) (v := ?_) rfl (by kernel_rfl) (by kernel_rfl) (by kernel_rfl) (fun _ _ _ h => h) (Or.inl ⟨by rfl, ?_⟩) (by assumption) ?_
            rotate_left
            · intro w hSw; (try dsimp only at hSw); go_simp; try with_reducible rfl
            try simp only [Act.put, List.setIfInBounds_toArray, List.set_cons_zero, List.set_cons_succ]
            refine wpAnyH_done (by kernel_rfl) ?_ _
            clear hHeld
            go_wp2_with fail
            have hne2 : ∀ j, j < k + 1 → es j ≠ Y := fun j hj => by
              by_cases e : j = k
              · subst e; rw [hX.out]; exact hxy
              · exact hne.out j (by omega)
            replace hne2 := Lib.hid hne2
            go_roundw
            case rel => exact ⟨k + 1, by omega, by go_num, hne2.out, _, rfl⟩
            case measure => simp [intOf]; omega
        · obtain rfl : k = i := by omega
          have st1 := hst.out.below (below_drewN wo d)
          have f2 : (wo.drewN d).cell? ⟨ob, oo + k, none⟩ = some (.int .u64 (es k : Int)) := (hst.out.low.cell (block_lt_of_cell hci)).trans hci
          have hd2 : ∀ a b, a < k + 1 → b < k + 1 → a ≠ b → es a ≠ es b := fun a b ha hb hab => by
            by_cases ea : a = k
            · subst ea; exact fun e => hne b (by omega) e.symm
            · by_cases eb : b = k
              · subst eb; exact hne a (by omega)
              · exact hd.out a b (by omega) (by omega) hab
          by_cases hE : es k < 16777216
          · have c1 := Lib.hid (fun wx => count_ok wx (es k) hE)
            have n1 := Lib.hid (fun wx c => snew22 wx (key1 1) 7 (some ⟨c, 0, none⟩) k1.out)
            have n2 := Lib.hid (fun wx c => snew22 wx (key1 1) 8 (some ⟨c, 0, none⟩) k1.out)
            clear hst hne hd be hci
            generalize hX : es k = X at *
            replace st1 := Lib.hid st1
            replace hd2 := Lib.hid hd2
            replace hX := Lib.hid hX
            go_wp2_with fail
            refine (c1.out _).mono ?_
            rintro x w1 ⟨c, rfl, hc, C1, B1⟩
            have st2 := st1.out.below B1
            have hcw : w.heap.size ≤ c := Nat.le_trans st1.out.low.size hc
            clear c1 st1 B1 hc f2
            replace st2 := Lib.hid st2
            replace C1 := Lib.hid C1
            replace hcw := Lib.hid hcw
            go_wp2_with (first
              | refine wpList_build1 (by rfl) 23 0 (.int .u8 1) rfl (u8s (key1 1)) bk.out ?_)
            refine (n1.out _ _).mono ?_
            rintro x w2 ⟨b1, rfl, -, S1, B2⟩
            have st3 := st2.out.below B2
            have C2 := C1.out.below B2 C1.out.lt
            clear n1 st2 B2 C1
            replace st3 := Lib.hid st3
            replace C2 := Lib.hid C2
            replace S1 := Lib.hid S1
            go_wp2_with (first
              | refine wpList_build1 (by rfl) 23 0 (.int .u8 1) rfl (u8s (key1 1)) bk.out ?_)
            refine (n2.out _ _).mono ?_
            rintro x w3 ⟨b2, rfl, -, S2, B3⟩
            have st4 := (st3.out.below B3).below ((Below.refl _ w3).alloc (Nat.le_refl _) (.cells #[.pointer (some ⟨b1, 0, none⟩), .pointer (some ⟨b2, 0, none⟩)] 39))
            have C4 : CountAt (w3.alloc (.cells #[.pointer (some ⟨b1, 0, none⟩), .pointer (some ⟨b2, 0, none⟩)] 39)) c X 0 := (heap_alloc_old _ _ (C2.out.below B3 C2.out.lt).lt).trans (C2.out.below B3 C2.out.lt)
            have S1' : SealerAt (w3.alloc (.cells #[.pointer (some ⟨b1, 0, none⟩), .pointer (some ⟨b2, 0, none⟩)] 39)) b1 (key1 1) 7 (some ⟨c, 0, none⟩) := (heap_alloc_old _ _ (S1.out.below B3 S1.out.lt).lt).trans (S1.out.below B3 S1.out.lt)
            have S2' : SealerAt (w3.alloc (.cells #[.pointer (some ⟨b1, 0, none⟩), .pointer (some ⟨b2, 0, none⟩)] 39)) b2 (key1 1) 8 (some ⟨c, 0, none⟩) := (heap_alloc_old _ _ S2.lt).trans S2
            have lp := length_ptrL ss (2 * k)
            clear n2 st3 C2 S1 S2 B3
            replace st4 := Lib.hid st4
            replace C4 := Lib.hid C4
            replace S1' := Lib.hid S1'
            replace S2' := Lib.hid S2'
            replace lp := Lib.hid lp
            go_wp2_with (at_builtin; refine wpList_append_x rfl (.tmp 57) (.tmp 64) 35 rfl 39 Try.underlying35 (.pointer none) 8 infoPS rfl (by decide) w.heap.size w u5 (ptrL ss (2 * k)) rfl st4.out.o st4.out.low st4.out.low.size (some ⟨w3.heap.size, 0, none⟩) 2 2 [.pointer (some ⟨b1, 0, none⟩), .pointer (some ⟨b2, 0, none⟩)] rfl rfl (fun e => by simp at e) two_cells (by intro u hu; simp at hu; rcases hu with rfl | rfl <;> rfl) (by rw [lp.out]; omega) ?_; intro v5 w5 O5 B5 G5 hb5)
            have hst6 := st4.out.add (hX.out.symm ▸ C4.out) S1'.out S2'.out (hX.out.symm ▸ hE) hcw.out O5.out G5.out
            have e0 : (fun j => if j = k then 0 else (fun _ : Nat => (0 : Nat)) j) = fun _ => 0 := by funext j; simp
            rw [e0] at hst6
            clear e0 st4 C4 S1' S2' O5 B5 G5 hb5
            replace hst6 := Lib.hid hst6
            go_roundw
            case rel => exact ⟨k + 1, by omega, by go_num, hd2.out, _, _, hst6.out⟩
            case measure => simp [intOf]; omega
          · have c1 := Lib.hid (fun wx => count_bad wx (es k) hE)
            clear hst hne hd be hci hd2
            generalize es k = X at *
            replace st1 := Lib.hid st1
            go_wp2_with fail
            refine (c1.out _).mono ?_
            rintro x _ ⟨rfl, rfl⟩
            clear c1 f2
            go_wp2_with fail
            refine (al.out _).mono ?_
            rintro x w2 ⟨rfl, B2⟩
            have low := st1.out.low.trans (B2.mono st1.out.low.size)
            replace low := Lib.hid low
            go_wp2_with fail
            go_ret
            exact ⟨rfl, low.out⟩
    · obtain rfl : i = L := by omega
      clear hlt hes hi
      obtain ⟨N, eN⟩ : ∃ N, N = 2 * i := ⟨_, rfl⟩
      obtain ⟨aq, cs0, es0, hN1, -⟩ := ptr_at hst.o
      rw [← eN] at es0 hN1
      subst es0
      obtain ⟨ot, oT, hto⟩ : ∃ ot oT, ∀ k, k < T → vt = some ⟨ot, oT, none⟩ ∧ byt t k < 256 ∧ w.cell? ⟨ot, oT + k, none⟩ = some (.int .u8 (byt t k : Int)) := by
        obtain ⟨a2, c2, e2, _, _, hb⟩ := ht.out.ex
        rw [et.out] at e2 hb
        injection e2 with e2
        subst e2
        cases vt with
        | none => exact ⟨0, 0, fun k hk => by obtain ⟨_, _, _, e, _⟩ := hb k hk; simp at e⟩
        | some ad =>
          by_cases h0 : 0 < T
          · obtain ⟨_, ob, oo, e, _⟩ := hb 0 h0
            refine ⟨ob, oo, fun k hk => ?_⟩
            obtain ⟨q, ob', oo', e', hc⟩ := hb k hk
            rw [e] at e'
            injection e' with e'; injection e' with e1 e2
            subst e1; subst e2
            exact ⟨e, q, hc⟩
          · exact ⟨0, 0, fun k hk => by omega⟩
      have hseen : SeenSt w wr es (fun _ => 0) i (.slice none 0 0) [] := ⟨Own.nil _ _ _, fun x hx => by simp at hx⟩
      replace hd := Lib.hid hd
      replace hst := Lib.hid hst
      replace hto := Lib.hid hto
      replace eN := Lib.hid eN
      replace hN1 := Lib.hid hN1
      replace hseen := Lib.hid hseen
      go_wp2_with fail
      go_loopw [10, 11] (fun sv iv wr => ∃ (p : Nat) (xs : List Nat) (cnt : Nat → Nat), p ≤ T ∧ iv = .int .i64 p ∧ (∀ j, j < i → cnt j ≤ p) ∧ OnSt w wr es i cs ss cnt (.slice aq N cs0) ∧ SeenSt w wr es cnt i sv xs ∧ xs.length = p) (fun _ iv _ => T - (intOf iv).toNat)
      case atStart => exact ⟨0, [], _, Nat.zero_le _, rfl, fun j _ => Nat.le_refl _, hst.out, hseen.out, rfl⟩
      case round =>
        obtain ⟨p, xs, cnt, hp, rfl, hcnt, hS, hX, lx⟩ := hrel
        clear hst hseen
        by_cases hgo : p < T ∧ 0 < N
        · obtain ⟨hpT, hN0⟩ := hgo
          obtain ⟨rfl, hx8, hco⟩ := hto.out p hpT
          obtain ⟨x, ex⟩ : ∃ x, x = byt t p := ⟨_, rfl⟩
          rw [← ex] at hx8 hco
          obtain ⟨q, eq⟩ : ∃ q, q = x % N := ⟨_, rfl⟩
          have hqN : q < N := by rw [eq]; exact Nat.mod_lt _ hN0
          have hq2 : q < 2 * i := by have := eN.out; omega
          have hj : q / 2 < i := by omega
          obtain ⟨aq', cq', e', -, hqc⟩ := ptr_at hS.o
          rw [← eN.out] at e'
          injection e' with e1 _ e3
          subst e1; subst e3
          obtain ⟨gs, rfl, hcs⟩ := hqc q hq2
          clear hqc
          have hSq := hS.s q hq2
          have hCq := hS.c (q / 2) hj
          have hEq := hS.ep (q / 2) hj
          have hfj := hS.far (q / 2) hj
          have hcp := hcnt (q / 2) hj
          have hsc := hS.s_ne hq2 hCq (by decide)
          have hgt : gs ≠ cs (q / 2) := hS.o_ne hCq (by decide) gs rfl
          have cb := Lib.hid (fun wx h => block_any wx (.slice (some ⟨ot, oT, none⟩) T ct) t h (by rw [et.out]; omega))
          have lP := blockL_length (t := t) (by rw [et.out]; omega)
          have sP := blockL_small ht.out.small
          have fo : wr.cell? ⟨ot, oT + p, none⟩ = some (.int .u8 (x : Int)) := (hS.low.cell (block_lt_of_cell hco)).trans hco
          have hoj : ot ≠ cs (q / 2) := by have := block_lt_of_cell hco; simp only at this; omega
          have m1 : (x : Int).tmod (N : Int) = (q : Int) := by rw [Int.tmod_eq_emod_of_nonneg (by omega), eq]; omega
          have m2 : (x : Int) % (N : Int) = (q : Int) := by rw [eq]; omega
          have m3 : IntKind.i64.wrap (q : Int) = (q : Int) := IntWalk.i64_in _ (by omega)
          have m4 : ¬ N = 0 := by omega
          have m5 : IntKind.i64.wrap (x : Int) = (x : Int) := IntWalk.i64_in _ (by omega)
          have dpT : decide ((p : Int) < (T : Int)) = true := decide_eq_true (by omega)
          have dpn : decide (p < T) = true := decide_eq_true hpT
          have dN : decide ((N : Int) > 0) = true := decide_eq_true (by omega)
          have dNn : decide (0 < N) = true := decide_eq_true hN0
          have hq0 : (q : Int) < (N : Int) := by omega
          generalize blockL t = P at *
          replace hS := Lib.hid hS
          replace hX := Lib.hid hX
          replace hcnt := Lib.hid hcnt
          replace lx := Lib.hid lx
          replace hSq := Lib.hid hSq
          replace hCq := Lib.hid hCq
          replace hEq := Lib.hid hEq
          replace hfj := Lib.hid hfj
          replace hcp := Lib.hid hcp
          replace hsc := Lib.hid hsc
          replace hgt := Lib.hid hgt
          replace lP := Lib.hid lP
          replace sP := Lib.hid sP
          replace hoj := Lib.hid hoj
          replace ex := Lib.hid ex
          replace eq := Lib.hid eq
          replace hq2 := Lib.hid hq2
          replace hj := Lib.hid hj
          replace hco := Lib.hid hco
          replace m4 := Lib.hid m4
          replace hx8 := Lib.hid hx8
          go_wp2_with fail
          have fo' : wr.drew.cell? ⟨ot, oT + p, none⟩ = some (.int .u8 (x : Int)) := fo
          have fs' : wr.drew.cell? ⟨gs, q, none⟩ = some (.pointer (some ⟨ss q, 0, none⟩)) := hcs
          have hx8' := hx8.out
          have m4' := m4.out
          refine wp_region_held_drew (S := (fun w' => w'.cell? ⟨ot, oT + p, none⟩ = some (.int .u8 (x : Int)) ∧ w'.cell? ⟨gs, q, none⟩ = some (.pointer (some ⟨ss q, 0, none⟩)))) (by kernel_rfl) (⟨fo', fs'⟩) (fun hHeld => ?_)
          refine held_take (i := 0) (v := ?_) rfl (by kernel_rfl) (by kernel_rfl) (by kernel_rfl) (fun _ _ _ h => h) (Or.inl ⟨by rfl, ?_⟩) (by assumption) ?_
          rotate_left
          · intro w hSw; (try dsimp only at hSw); go_simp; try with_reducible rfl
          try simp only [Act.put, List.setIfInBounds_toArray, List.set_cons_zero, List.set_cons_succ]
          refine held_take (i := 1) (v := ?_) rfl (by kernel_rfl) (by kernel_rfl) (by kernel_rfl) (fun _ _ _ h => h) (Or.inl ⟨by rfl, ?_⟩) (by assumption) ?_
          rotate_left
          · intro w hSw; (try dsimp only at hSw); go_simp; try with_reducible rfl
          try simp only [Act.put, List.setIfInBounds_toArray, List.set_cons_zero, List.set_cons_succ]
          refine held_take (i := 2) (v := ?_) rfl (by kernel_rfl) (by kernel_rfl) (by kernel_rfl) (fun _ _ _ h => h) (Or.inl ⟨by rfl, ?_⟩) (by assumption) ?_
          rotate_left
          · intro w hSw; (try dsimp only at hSw); go_simp; try with_reducible rfl
          try simp only [Act.put, List.setIfInBounds_toArray, List.set_cons_zero, List.set_cons_succ]
          refine held_take (i := 3) (v := ?_) rfl (by kernel_rfl) (by kernel_rfl) (by kernel_rfl) (fun _ _ _ h => h) (Or.inl ⟨by rfl, ?_⟩) (by assumption) ?_
          rotate_left
          · intro w hSw; (try dsimp only at hSw); go_simp; try with_reducible rfl
          try simp only [Act.put, List.setIfInBounds_toArray, List.set_cons_zero, List.set_cons_succ]
          refine held_take (i := 4) (v := ?_) rfl (by kernel_rfl) (by kernel_rfl) (by kernel_rfl) (fun _ _ _ h => h) (Or.inl ⟨by rfl, ?_⟩) (by assumption) ?_
          rotate_left
          · intro w hSw; (try dsimp only at hSw); go_simp; try with_reducible rfl
          try simp only [Act.put, List.setIfInBounds_toArray, List.set_cons_zero, List.set_cons_succ]
          refine held_take (i := 5) (v := ?_) rfl (by kernel_rfl) (by kernel_rfl) (by kernel_rfl) (fun _ _ _ h => h) (Or.inl ⟨by rfl, ?_⟩) (by assumption) ?_
          rotate_left
          · intro w hSw; (try dsimp only at hSw); go_simp; try with_reducible rfl
          try simp only [Act.put, List.setIfInBounds_toArray, List.set_cons_zero, List.set_cons_succ]
          refine held_take (i := 6) (v := ?_) rfl (by kernel_rfl) (by kernel_rfl) (by kernel_rfl) (fun _ _ _ h => h) (Or.inl ⟨by rfl, ?_⟩) (by assumption) ?_
          rotate_left
          · intro w hSw; (try dsimp only at hSw); go_simp; try with_reducible rfl
          try simp only [Act.put, List.setIfInBounds_toArray, List.set_cons_zero, List.set_cons_succ]
          refine held_take (i := 7) (v := ?_) rfl (by kernel_rfl) (by kernel_rfl) (by kernel_rfl) (fun _ _ _ h => h) (Or.inl ⟨by rfl, ?_⟩) (by assumption) ?_
          rotate_left
          · intro w hSw; (try dsimp only at hSw); go_simp; try with_reducible rfl
          try simp only [Act.put, List.setIfInBounds_toArray, List.set_cons_zero, List.set_cons_succ]
          refine held_take (i := 8) (v := ?_) rfl (by kernel_rfl) (by kernel_rfl) (by kernel_rfl) (fun _ _ _ h => h) (Or.inl ⟨by rfl, ?_⟩) (by assumption) ?_
          rotate_left
          · intro w hSw; (try dsimp only at hSw); go_simp; try with_reducible rfl
          try simp only [Act.put, List.setIfInBounds_toArray, List.set_cons_zero, List.set_cons_succ]
          refine held_take (i := 9) (v := ?_) rfl (by kernel_rfl) (by kernel_rfl) (by kernel_rfl) (fun _ _ _ h => h) (Or.inl ⟨by rfl, ?_⟩) (by assumption) ?_
          rotate_left
          · intro w hSw; (try dsimp only at hSw); go_simp; try with_reducible rfl
          try simp only [Act.put, List.setIfInBounds_toArray, List.set_cons_zero, List.set_cons_succ]
          refine held_take (i := 10) (v := ?_) rfl (by kernel_rfl) (by kernel_rfl) (by kernel_rfl) (fun _ _ _ h => h) (Or.inl ⟨by rfl, ?_⟩) (by assumption) ?_
          rotate_left
          · intro w hSw; (try dsimp only at hSw); go_simp; try with_reducible rfl
          try simp only [Act.put, List.setIfInBounds_toArray, List.set_cons_zero, List.set_cons_succ]
          refine held_take (i := 11) (v := ?_) rfl (by kernel_rfl) (by kernel_rfl) (by kernel_rfl) (fun _ _ _ h => h) (Or.inl ⟨by rfl, ?_⟩) (by assumption) ?_
          rotate_left
          · intro w hSw; (try dsimp only at hSw); go_simp; try with_reducible rfl
          try simp only [Act.put, List.setIfInBounds_toArray, List.set_cons_zero, List.set_cons_succ]
          refine held_ready (i := 12) rfl (by kernel_rfl) (fun K hK => ?_)
          go_simp
          have F0 : TextAt wr.drew (.slice (some ⟨ot, oT, none⟩) T ct) t := (ht.out.below hS.out.low).drew
          refine (cb.out _ F0).mono ?_
          rintro y w1 ⟨g, rfl, R1, hg, B1⟩
          have S1 : OnSt w w1 es i cs ss cnt (.slice (some ⟨gs, 0, none⟩) N cs0) := (hS.out.below (Below.refl _ _).drew).below B1
          have X1 : SeenSt w w1 es cnt i u10 xs := (hX.out.below (Below.refl _ _).drew).below B1
          have fo1 := (B1.cell (block_lt_of_cell fo')).trans fo'
          have fs1 := (B1.cell (block_lt_of_cell fs')).trans fs'
          have hgj : g ≠ cs (q / 2) := by have := hCq.out.lt; have hg' : wr.heap.size ≤ g := hg; omega
          clear cb F0 B1 hg fo fs' fo' hcs
          replace S1 := Lib.hid S1
          replace X1 := Lib.hid X1
          replace R1 := Lib.hid R1
          refine hK.out _ _ (⟨fo1, fs1⟩) (fun hHeldN => ?_)
          clear hHeld hK K
          have hHeld := hHeldN
          clear hHeldN
          try simp only [Act.put, List.setIfInBounds_toArray, List.set_cons_zero, List.set_cons_succ]
          refine held_ready (i := 13) rfl (by kernel_rfl) (fun K hK => ?_)
          go_simp
          refine (sealm_ok w1 (ss q) (cs (q / 2)) (key1 1) (7 + q % 2) (es (q / 2)) (cnt (q / 2)) k1.out k2.out (by omega) hEq.out (by have := hcp.out; omega) (S1.out.s q hq2.out) (S1.out.c _ hj.out) hsc.out _ P (row_whole R1.out sP.out lP.out) lP.out (fun w' U => row_whole (R1.out.other (U.block g R1.out.lt hgj)) sP.out lP.out)).mono ?_
          rintro y w2 ⟨y2, rfl, -, C2, U2⟩
          have S2 := S1.out.next hd.out hj.out C2 U2
          have X2 := X1.out.count (S1.out.c _ hj.out) U2 hj.out
          obtain ⟨X3, hfresh⟩ := X2.next hj.out
          have hfr := fun x hx => hfresh x hx hd.out (by have := hcp.out; omega) (fun k hk => by have := hcnt.out k hk; omega)
          have fo2 := (U2.cell (block_lt_of_cell fo1) hoj.out).trans fo1
          have fs2 := (U2.cell (block_lt_of_cell fs1) hgt.out).trans fs1
          clear S1 X1 R1 C2 U2 X2 hfresh fo1 fs1 hgj hS hX hSq hCq hoj
          obtain ⟨au, cu, eu, hcu⟩ := nums_at X3.o
          subst eu
          rw [lx.out] at X3 hcu ⊢
          obtain ⟨cnt2, ecn⟩ : ∃ cnt2 : Nat → Nat, cnt2 = fun k => if k = q / 2 then cnt (q / 2) + 1 else cnt k := ⟨_, rfl⟩
          rw [← ecn] at S2 X3
          have hc2 : cnt (q / 2) + 1 ≤ cnt2 (q / 2) := by rw [ecn]; simp
          have hcnt2 : ∀ j, j < i → cnt2 j ≤ p + 1 := fun j hj' => by
            rw [ecn]
            show (if j = q / 2 then cnt (q / 2) + 1 else cnt j) ≤ p + 1
            split
            · have := hcp.out; omega
            · have := hcnt.out j hj'; omega
          obtain ⟨St, eSt⟩ : ∃ St, St = stampOf (es (q / 2)) (cnt (q / 2) + 1) := ⟨_, rfl⟩
          rw [← eSt]
          simp only [← eSt] at hfr
          replace S2 := Lib.hid S2
          replace X3 := Lib.hid X3
          replace hfr := Lib.hid hfr
          replace ecn := Lib.hid ecn
          replace eSt := Lib.hid eSt
          replace hcu := Lib.hid hcu
          replace hc2 := Lib.hid hc2
          replace hcnt2 := Lib.hid hcnt2
          refine hK.out _ _ (⟨fo2, fs2⟩) (fun hHeldN => ?_)
          clear hHeld hK K
          have hHeld := hHeldN
          clear hHeldN
          try simp only [Act.put, List.setIfInBounds_toArray, List.set_cons_zero, List.set_cons_succ]
          refine held_take (i := 14) (v := ?_) rfl (by kernel_rfl) (by kernel_rfl) (by kernel_rfl) (fun _ _ _ h => h) (Or.inl ⟨by rfl, ?_⟩) (by assumption) ?_
          rotate_left
          · intro w hSw; (try dsimp only at hSw); go_simp; try with_reducible rfl
          try simp only [Act.put, List.setIfInBounds_toArray, List.set_cons_zero, List.set_cons_succ]
          refine held_take (i := 15) (v := ?_) rfl (by kernel_rfl) (by kernel_rfl) (by kernel_rfl) (fun _ _ _ h => h) (Or.inl ⟨by rfl, ?_⟩) (by assumption) ?_
          rotate_left
          · intro w hSw; (try dsimp only at hSw); go_simp; try with_reducible rfl
          try simp only [Act.put, List.setIfInBounds_toArray, List.set_cons_zero, List.set_cons_succ]
          refine held_take (i := 16) (v := ?_) rfl (by kernel_rfl) (by kernel_rfl) (by kernel_rfl) (fun _ _ _ h => h) (Or.inl ⟨by rfl, ?_⟩) (by assumption) ?_
          rotate_left
          · intro w hSw; (try dsimp only at hSw); go_simp; try with_reducible rfl
          try simp only [Act.put, List.setIfInBounds_toArray, List.set_cons_zero, List.set_cons_succ]
          refine held_take (i := 17) (v := ?_) rfl (by kernel_rfl) (by kernel_rfl) (by kernel_rfl) (fun _ _ _ h => h) (Or.inl ⟨by rfl, ?_⟩) (by assumption) ?_
          rotate_left
          · intro w hSw; (try dsimp only at hSw); go_simp; try with_reducible rfl
          try simp only [Act.put, List.setIfInBounds_toArray, List.set_cons_zero, List.set_cons_succ]
          refine held_take (i := 18) (v := ?_) rfl (by kernel_rfl) (by kernel_rfl) (by kernel_rfl) (fun _ _ _ h => h) (Or.inl ⟨by rfl, ?_⟩) (by assumption) ?_
          rotate_left
          · intro w hSw; (try dsimp only at hSw); go_simp; try with_reducible rfl
          try simp only [Act.put, List.setIfInBounds_toArray, List.set_cons_zero, List.set_cons_succ]
          refine held_take (i := 19) (v := ?_) rfl (by kernel_rfl) (by kernel_rfl) (by kernel_rfl) (fun _ _ _ h => h) (Or.inl ⟨by rfl, ?_⟩) (by assumption) ?_
          rotate_left
          · intro w hSw; (try dsimp only at hSw); go_simp; try with_reducible rfl
          try simp only [Act.put, List.setIfInBounds_toArray, List.set_cons_zero, List.set_cons_succ]
          refine held_take (i := 20) (v := ?_) rfl (by kernel_rfl) (by kernel_rfl) (by kernel_rfl) (fun _ _ _ h => h) (Or.inl ⟨by rfl, ?_⟩) (by assumption) ?_
          rotate_left
          · intro w hSw; (try dsimp only at hSw); go_simp; try with_reducible rfl
          try simp only [Act.put, List.setIfInBounds_toArray, List.set_cons_zero, List.set_cons_succ]
          refine wpAnyH_done (by kernel_rfl) ?_ _
          clear hHeld
          clear fo2 fs2 m1 m2 m3 m4 m5 hx8' m4' hq0
          go_wp2_with fail
          go_loopw [15] (fun kv wx => ∃ k : Nat, k ≤ p ∧ kv = .int .i64 k ∧ wx = w2) (fun kv _ => p - (intOf kv).toNat)
          case atStart => exact ⟨0, Nat.zero_le _, rfl, rfl⟩
          case round =>
            obtain ⟨k, hk, rfl, rfl⟩ := hrel
            by_cases hkp : k < p
            · obtain ⟨gu, rfl, hck⟩ := hcu.out k hkp
              have hyne := hfr.out (xs.getD k 0) (by
                have e : xs.getD k 0 = xs[k]'(by rw [lx.out]; exact hkp) := by simp [lx.out, hkp]
                rw [e]; exact List.getElem_mem _)
              generalize xs.getD k 0 = Y at *
              have e1 : ((Y : Int) == (St : Int)) = false := beq_eq_false_iff_ne.2 (by omega)
              have g1 : (k : Int) < (p : Int) := by omega
              go_wp2_with fail
              go_roundw
              case rel => exact ⟨k + 1, by omega, by go_num, by first | trivial | rfl⟩
              case measure => simp [intOf]; omega
            · obtain rfl : k = p := by omega
              have ba : Below wr.heap.size wr (wr.alloc (.cells #[.int .u64 (St : Int)] 24)) := (Below.refl _ wr).alloc (Nat.le_refl _) _
              have st4 := S2.out.below ba
              have X4 := X3.out.below ba
              clear S2 X3 ba hcu hfr
              replace st4 := Lib.hid st4
              replace X4 := Lib.hid X4
              go_wp2_with (at_builtin; refine wpList_append_x rfl (.tmp 109) (.tmp 111) 34 rfl 24 Try.underlying34 (.int .u64 0) 8 infoU64' rfl (by decide) w.heap.size w (.slice au k cu) (xs.map fun (x : Nat) => Value.int .u64 (x : Int)) rfl X4.out.o st4.out.low st4.out.low.size (some ⟨wr.heap.size, 0, none⟩) 1 1 [.int .u64 (St : Int)] rfl rfl (fun e => by simp at e) one_cell (by intro u hu; simp at hu; subst hu; rfl) (by rw [List.length_map, lx.out]; omega) ?_; intro v5 w5 O5 B5 G5 hb5)
              have X5 := X4.out.add (w2 := w5) (u2 := v5) hj.out (c := cnt (q / 2) + 1) (by omega) hc2.out (by rw [← eSt.out]; exact O5.out)
              have S5 := st4.out.grown G5.out (fun k e => ⟨(X4.out.o.lt k e).1, X4.out.o.type e⟩)
              clear st4 X4 O5 B5 G5 hb5
              replace X5 := Lib.hid X5
              replace S5 := Lib.hid S5
              go_roundw
              case rel => exact ⟨k + 1, xs ++ [stampOf (es (q / 2)) (cnt (q / 2) + 1)], cnt2, by omega, by go_num, hcnt2.out, S5.out, X5.out, by simp [lx.out]⟩
              case measure => simp [intOf]; omega
        · have dd : (decide ((p : Int) < (T : Int)) = false ∧ decide (p < T) = false) ∨ (decide ((p : Int) < (T : Int)) = true ∧ decide (p < T) = true ∧ decide ((N : Int) > 0) = false ∧ decide (0 < N) = false) := by
            by_cases h1 : p < T
            · right
              have h2 : ¬ 0 < N := fun h => hgo ⟨h1, h⟩
              exact ⟨decide_eq_true (by omega), decide_eq_true h1, decide_eq_false (by omega), decide_eq_false h2⟩
            · left
              exact ⟨decide_eq_false (by omega), decide_eq_false h1⟩
          have low := hS.low
          clear hS hX hcnt lx hgo hto
          replace low := Lib.hid low
          rcases dd with ⟨d1, d2⟩ | ⟨d1, d2, d3, d4⟩
          all_goals
            go_wp2_with fail
            refine (al.out _).mono ?_
            rintro x w2 ⟨rfl, B2⟩
            have low2 := low.out.trans (B2.mono low.out.size)
            replace low2 := Lib.hid low2
            go_wp2_with fail
            go_ret
            exact ⟨rfl, low2.out⟩
end Go.Proofs.Ytecmagenlbnchaa
namespace Go.Proofs.Ytecmagenlbnchaa
set_option maxRecDepth 100000
open Go.RowKit

/-- What SealCounts keeps. -/
structure ScSt (w wr : World) (bb cc : Nat) (m : List Nat) (n e k : Nat) : Prop where
  key : RowB wr w.heap.size 23 m
  s : SealerAt wr bb m n (some ⟨cc, 0, none⟩)
  c : CountAt wr cc e k
  low : Below w.heap.size w wr
  pos : w.heap.size < cc ∧ cc < bb
theorem ScSt.below {w wr w2 : World} {b c n e k : Nat} {m : List Nat} (h : ScSt w wr b c m n e k) (hB : Below wr.heap.size wr w2) : ScSt w w2 b c m n e k :=
  ⟨h.key.below hB h.key.lt, h.s.below hB h.s.lt, h.c.below hB h.c.lt, h.low.trans (hB.mono h.low.size), h.pos⟩
theorem ScSt.next {w wr w2 : World} {b c n e k k' : Nat} {m : List Nat} (h : ScSt w wr b c m n e k) (hC : CountAt w2 c e k') (hU : Upd (fun i => i = c) wr w2) : ScSt w w2 b c m n e k' :=
  ⟨h.key.other (hU.block _ h.key.lt (by have := h.pos; omega)), (hU.block _ h.s.lt (by have := h.pos; omega)).trans h.s, hC, h.low.trans (hU.below (fun i hi e => by have := h.pos; omega) h.low.size), h.pos⟩
theorem texts_at {w : World} {ao : Option Addr} {ls : List (List Nat)} (h : TextsAt w ao ls) {k : Nat} (hk : k < ls.length) : ∃ ob oo ai ci, ao = some ⟨ob, oo, none⟩ ∧ w.cell? ⟨ob, oo + k, none⟩ = some (.slice ai (ls.getD k []).length ci) ∧ TextAt w (.slice ai (ls.getD k []).length ci) (ls.getD k []) := by
  obtain ⟨ob, oo, e, ai, ci, h1, h2, h3, h4⟩ := h k hk
  exact ⟨ob, oo, ai, ci, e, h1, ai, ci, rfl, h2, h4, h3⟩
set_option maxHeartbeats 8000000 in
set_option maxRecDepth 100000 in
theorem sealCounts_law (w : World) (m : List Nat) (n e : Nat) (lm : m.length = 32) (sm : ∀ x ∈ m, x < 256) (hn : n < 18446744073709551616) (ao : Option Addr) (L cap : Nat) (ls : List (List Nat)) (el : ls.length = L) (hls : TextsAt w ao ls) (hL : L < 9223372036854775808) :
    Calls Try.prog 7 #[.agg (u8s m), .int .u64 (n : Int), .int .u64 (e : Int), .slice ao L cap] w fun x w' => x = .returned (.bool true) ∧ Below w.heap.size w w' := by
  have r0 : RowB (w.alloc (.cells (u8s m) 23)) w.heap.size 23 m := heap_alloc_new _ _
  have b0 : Below w.heap.size w (w.alloc (.cells (u8s m) 23)) := (Below.refl _ _).alloc (Nat.le_refl _) _
  have iM := infoKey lm
  have al := Lib.hid (fun wx => alive22 wx)
  by_cases he : e < 16777216
  · have c1 := Lib.hid (fun wx => count_ok wx e he)
    by_cases hL6 : 6 < L
    · have d : decide ((L : Int) > 6) = true := decide_eq_true (by omega)
      replace r0 := Lib.hid r0
      replace b0 := Lib.hid b0
      replace iM := Lib.hid iM
      replace hls := Lib.hid hls
      replace el := Lib.hid el
      replace lm := Lib.hid lm
      replace sm := Lib.hid sm
      go_enter Try.func7, Try.ntmps7
      go_wp2_with fail
      refine (c1.out _).mono ?_
      rintro x w1 ⟨c, rfl, -, -, B1⟩
      have L1 := b0.out.trans (B1.mono b0.out.size)
      clear c1 B1
      replace L1 := Lib.hid L1
      go_wp2_with fail
      refine (al.out _).mono ?_
      rintro x w2 ⟨rfl, B2⟩
      have low := L1.out.trans (B2.mono L1.out.size)
      replace low := Lib.hid low
      go_wp2_with fail
      go_ret
      exact ⟨rfl, low.out⟩
    · have d : decide ((L : Int) > 6) = false := decide_eq_false (by omega)
      have cnw := Lib.hid (fun wx c => snew22 wx m n (some ⟨c, 0, none⟩) lm)
      replace r0 := Lib.hid r0
      replace b0 := Lib.hid b0
      replace iM := Lib.hid iM
      replace hls := Lib.hid hls
      replace el := Lib.hid el
      replace lm := Lib.hid lm
      replace sm := Lib.hid sm
      go_enter Try.func7, Try.ntmps7
      go_wp2_with fail
      refine (c1.out _).mono ?_
      rintro x w1 ⟨c, rfl, hc, C1, B1⟩
      have L1 := b0.out.trans (B1.mono b0.out.size)
      have r1 := r0.out.below B1 r0.out.lt
      have hc' : w.heap.size < c := by have := r0.out.lt; omega
      clear c1 B1 hc
      replace L1 := Lib.hid L1
      replace r1 := Lib.hid r1
      replace C1 := Lib.hid C1
      replace hc' := Lib.hid hc'
      go_wp2_with (first
        | refine wpList_load_b (by rfl) 23 (.tmp 4) rfl w.heap.size rfl 23 m r1.out _ Try.underlying23 rfl iM.out ?_)
      refine (cnw.out _ _).mono ?_
      rintro x w2 ⟨b, rfl, hb, S2, B2⟩
      have st : ScSt w w2 b c m n e 0 := ⟨r1.out.below B2 r1.out.lt, S2, C1.out.below B2 C1.out.lt, L1.out.trans (B2.mono L1.out.size), hc'.out, Nat.lt_of_lt_of_le C1.out.lt hb⟩
      clear cnw hb S2 B2 L1 r1 C1 r0 b0 hc'
      replace st := Lib.hid st
      go_wp2_with fail
      go_loopw [12, 13] (fun nv iv wr => ∃ k i : Nat, i ≤ L ∧ k ≤ i ∧ iv = .int .i64 i ∧ nv = .int .u64 k ∧ ScSt w wr b c m n e k) (fun _ iv _ => L - (intOf iv).toNat)
      case atStart => exact ⟨0, 0, Nat.zero_le _, Nat.le_refl _, rfl, rfl, st.out⟩
      case round =>
        obtain ⟨k, i, hi, hki, rfl, rfl, hst⟩ := hrel
        clear st
        by_cases hlt : i < L
        · obtain ⟨ob, oo, ai, ci, rfl, hcell, ht⟩ := texts_at hls.out (k := i) (by rw [el.out]; exact hlt)
          have hcw := (hst.low.cell (block_lt_of_cell hcell)).trans hcell
          have htw := fun w' (hb : Below w.heap.size w w') => ht.below hb
          have stt := ht.small
          clear hcell ht
          generalize ls.getD i [] = t at *
          obtain ⟨K, eK⟩ : ∃ K, K = t.length := ⟨_, rfl⟩
          rw [← eK] at hcw htw
          have dli : decide ((i : Int) < (L : Int)) = true := decide_eq_true (by omega)
          have dln : decide (i < L) = true := decide_eq_true hlt
          replace hst := Lib.hid hst
          replace htw := Lib.hid htw
          replace stt := Lib.hid stt
          replace eK := Lib.hid eK
          by_cases hK : 1000 < K
          · have dk : decide ((K : Int) > 1000) = true := decide_eq_true (by omega)
            go_wp2_with fail
            refine (al.out _).mono ?_
            rintro x w3 ⟨rfl, B3⟩
            have low := hst.out.low.trans (B3.mono hst.out.low.size)
            replace low := Lib.hid low
            go_wp2_with fail
            go_ret
            exact ⟨rfl, low.out⟩
          · have dk : decide ((K : Int) > 1000) = false := decide_eq_false (by omega)
            have hmod : (K : Int).tmod 513 = ((K % 513 : Nat) : Int) := by rw [Int.tmod_eq_emod_of_nonneg (by omega)]; omega
            have hi2 : (i : Int).tmod 2 = ((i % 2 : Nat) : Int) := by rw [Int.tmod_eq_emod_of_nonneg (by omega)]; omega
            have he1 : 1099511627776 * (e : Int) + ((k : Int) + 1) < 18446744073709551616 := by omega
            have hSt := stamp_lt (e := e) (c := k + 1) he (by omega)
            have eS : ((stampOf e (k + 1) : Nat) : Int) = 1099511627776 * (e : Int) + ((k : Int) + 1) := by unfold stampOf; omega
            by_cases hz : i % 2 = 0
            · rw [hz] at hi2
              simp only [show ((0 : Nat) : Int) = 0 from rfl] at hi2
              obtain ⟨cpx, hcpx⟩ : ∃ cpx : Nat, K ≤ ci := by
                obtain ⟨_, _, e1, e2, _⟩ := (htw.out w (Below.refl _ _)).ex
                injection e1 with _ e3 e4
                exact ⟨0, by rw [e3, e4]; exact e2⟩
              have hr : K % 513 ≤ 512 := by omega
              have hrK : K % 513 ≤ K := Nat.mod_le _ _
              have cut := run_cut_h (P := Try.prog) (T := 25) (e := 5) Try.underlying25 infoU8s ai K ci (K % 513) (by omega) ((K % 513 : Nat) : Int) rfl
              have ct := fun w' (hb : Below w.heap.size w w') => (show TextAt w' (.slice ai t.length ci) t by rw [← eK.out]; exact htw.out w' hb).cutHi (hi := K % 513) (by rw [← eK.out]; exact hrK)
              have lt : (t.take (K % 513)).length = K % 513 := by rw [List.length_take, ← eK.out]; omega
              have cb := fun wx h => block_any wx (.slice ai (K % 513) ci) (t.take (K % 513)) h (by omega)
              have lP := blockL_length (t := t.take (K % 513)) (by omega)
              have sP := blockL_small (t := t.take (K % 513)) (fun x hx => stt.out x (List.mem_of_mem_take hx))
              generalize K % 513 = r at *
              generalize blockL (t.take r) = P at *
              clear hcpx lt hK
              replace ct := Lib.hid ct
              replace cb := Lib.hid cb
              replace lP := Lib.hid lP
              replace sP := Lib.hid sP
              go_wp2_with fail
              refine (cb.out _ (ct.out _ hst.out.low)).mono ?_
              rintro x w3 ⟨g, rfl, R3, hg, B3⟩
              have st3 := hst.out.below B3
              have hgc : c < g := Nat.lt_of_lt_of_le hst.out.c.lt hg
              have T3 := row_whole R3 sP.out lP.out
              have hfar : ∀ w', Upd (fun i => i = c) w3 w' → TextAt w' (.slice (some ⟨g, 0, none⟩) 512 512) P := fun w' U => row_whole (R3.other (U.block g R3.lt (by omega))) sP.out lP.out
              clear hst B3 cut ct cb hcw hg hgc R3 hmod hi2 htw
              replace st3 := Lib.hid st3
              replace T3 := Lib.hid T3
              replace hfar := Lib.hid hfar
              go_wp2_with fail
              have cs := sealm_ok w3 b c m n e k lm.out sm.out hn he (by omega) st3.out.s st3.out.c (by have := st3.out.pos; omega) _ P T3.out lP.out hfar.out
              have c2 := Lib.hid (fun wx vm v h1 h2 => r22turn_any wx m n (stampOf e (k + 1)) lm.out hn hSt vm v P h1 h2)
              have c3 := Lib.hid (fun wx v hs h => openm_any wx b m n (stampOf e (k + 1)) (some ⟨c, 0, none⟩) lm.out sm.out hn hs v (slturnL m n (stampOf e (k + 1)) P) h)
              have eT : slturnT m n (stampOf e (k + 1)) P = slturnL m n (stampOf e (k + 1)) P := if_pos lP.out
              have eB : slbackT m n (stampOf e (k + 1)) (slturnL m n (stampOf e (k + 1)) P) = P := (if_pos (slturnL_length _ _ _ _)).trans (slback_turn m n _ lP.out sP.out)
              rw [eT, lP.out, show slE 512 = 0 from rfl] at c2
              rw [eB, slturnL_length, show slE 512 = 0 from rfl] at c3
              rw [eS] at cs c2 c3
              clear eT eB
              generalize slturnL m n (stampOf e (k + 1)) P = A at *
              replace cs := Lib.hid cs
              refine cs.out.mono ?_
              rintro x w4 ⟨y, rfl, T4, C4, U4⟩
              have st4 := st3.out.next C4 U4
              have P4 := hfar.out w4 U4
              clear cs st3 hfar C4 U4 T3
              replace T4 := Lib.hid T4
              replace st4 := Lib.hid st4
              replace P4 := Lib.hid P4
              go_wp2_with fail
              refine (c2.out _ _ _ (row_whole st4.out.key sm.out lm.out) P4.out).mono ?_
              rintro x w5 ⟨y5, rfl, T5, B5⟩
              have st5 := st4.out.below B5
              replace T4 := Lib.hid (T4.out.below B5)
              replace P4 := Lib.hid (P4.out.below B5)
              clear c2 st4 B5
              replace T5 := Lib.hid T5
              replace st5 := Lib.hid st5
              go_wp2_with fail
              refine (c3.out _ _ st5.out.s T4.out).mono ?_
              rintro x w6 ⟨y6, rfl, T6, B6⟩
              have st6 := st5.out.below B6
              have q1 := run_str (T4.out.below B6)
              have q2 := run_str (T5.out.below B6)
              have q3 := run_str (P4.out.below B6)
              have q4 := run_str T6
              clear c3 st5 B6 T4 T5 P4 T6
              replace st6 := Lib.hid st6
              go_wp2_with fail
              clear q1 q2 q3 q4
              go_roundw
              case rel => exact ⟨k + 1, i + 1, by omega, by omega, by go_num, by go_num, st6.out⟩
              case measure => simp [intOf]; omega
            · have hz1 : i % 2 = 1 := by omega
              rw [hz1] at hi2
              simp only [show ((1 : Nat) : Int) = 1 from rfl] at hi2
              clear hmod
              by_cases h5 : K = 512
              · have n5 : ((K : Int) == 512) = true := beq_iff_eq.2 (by omega)
                have n6 : ((K : Int) != 512) = false := by rw [bne, n5]; rfl
                have h5' := Lib.hid h5
                clear h5
                go_wp2_with fail
                obtain ⟨w3, rfl⟩ : ∃ w3 : World, w3 = wr := ⟨_, rfl⟩
                have T3 := htw.out _ hst.out.low
                have hfar : ∀ w', Upd (fun i => i = c) w3 w' → TextAt w' (.slice ai K ci) t := fun w' U => htw.out w' (hst.out.low.trans (U.below (fun i hi e => by have := hst.out.pos; omega) hst.out.low.size))
                obtain ⟨P, rfl⟩ : ∃ P, P = t := ⟨_, rfl⟩
                have lP : P.length = 512 := eK.out.symm.trans h5'.out
                have sP := stt.out
                have st3 := hst.out
                clear hst hcw hi2 htw eK stt dk
                replace st3 := Lib.hid st3
                replace T3 := Lib.hid T3
                replace hfar := Lib.hid hfar
                replace lP := Lib.hid lP
                replace sP := Lib.hid sP
                have cs := sealm_ok w3 b c m n e k lm.out sm.out hn he (by omega) st3.out.s st3.out.c (by have := st3.out.pos; omega) _ P T3.out lP.out hfar.out
                have c2 := Lib.hid (fun wx vm v h1 h2 => r22turn_any wx m n (stampOf e (k + 1)) lm.out hn hSt vm v P h1 h2)
                have c3 := Lib.hid (fun wx v hs h => openm_any wx b m n (stampOf e (k + 1)) (some ⟨c, 0, none⟩) lm.out sm.out hn hs v (slturnL m n (stampOf e (k + 1)) P) h)
                have eT : slturnT m n (stampOf e (k + 1)) P = slturnL m n (stampOf e (k + 1)) P := if_pos lP.out
                have eB : slbackT m n (stampOf e (k + 1)) (slturnL m n (stampOf e (k + 1)) P) = P := (if_pos (slturnL_length _ _ _ _)).trans (slback_turn m n _ lP.out sP.out)
                rw [eT, lP.out, show slE 512 = 0 from rfl] at c2
                rw [eB, slturnL_length, show slE 512 = 0 from rfl] at c3
                rw [eS] at cs c2 c3
                clear eT eB
                generalize slturnL m n (stampOf e (k + 1)) P = A at *
                replace cs := Lib.hid cs
                refine cs.out.mono ?_
                rintro x w4 ⟨y, rfl, T4, C4, U4⟩
                have st4 := st3.out.next C4 U4
                have P4 := hfar.out w4 U4
                clear cs st3 hfar C4 U4 T3
                replace T4 := Lib.hid T4
                replace st4 := Lib.hid st4
                replace P4 := Lib.hid P4
                go_wp2_with fail
                refine (c2.out _ _ _ (row_whole st4.out.key sm.out lm.out) P4.out).mono ?_
                rintro x w5 ⟨y5, rfl, T5, B5⟩
                have st5 := st4.out.below B5
                replace T4 := Lib.hid (T4.out.below B5)
                replace P4 := Lib.hid (P4.out.below B5)
                clear c2 st4 B5
                replace T5 := Lib.hid T5
                replace st5 := Lib.hid st5
                go_wp2_with fail
                refine (c3.out _ _ st5.out.s T4.out).mono ?_
                rintro x w6 ⟨y6, rfl, T6, B6⟩
                have st6 := st5.out.below B6
                have q1 := run_str (T4.out.below B6)
                have q2 := run_str (T5.out.below B6)
                have q3 := run_str (P4.out.below B6)
                have q4 := run_str T6
                clear c3 st5 B6 T4 T5 P4 T6
                replace st6 := Lib.hid st6
                go_wp2_with fail
                clear q1 q2 q3 q4
                go_roundw
                case rel => exact ⟨k + 1, i + 1, by omega, by omega, by go_num, by go_num, st6.out⟩
                case measure => simp [intOf]; omega
              · have n5 : ((K : Int) == 512) = false := beq_eq_false_iff_ne.2 (by omega)
                go_wp2_with fail
                refine (sealm_form wr b m n _ hst.out.s ai K ci h5).mono ?_
                rintro x _ ⟨rfl, rfl⟩
                clear he1 hSt eS hi2 htw eK hcw stt hls h5
                go_wp2_with fail
                go_roundw
                case rel => exact ⟨k, i + 1, by omega, by omega, by go_num, rfl, hst.out⟩
                case measure => simp [intOf]; omega
        · obtain rfl : i = L := by omega
          have cnn := Lib.hid (fun wx => snew22 wx m n none lm.out)
          have cbn := Lib.hid (fun wx => block_any wx (.slice none 0 0) [] (TextAt.nil _) (by decide))
          clear hls
          go_wp2_with fail
          refine (cbn.out _).mono ?_
          rintro x w3 ⟨g3, rfl, -, -, B3⟩
          have zc : w3.cell? ⟨wr.heap.size, 0, none⟩ = some (.bool false) := (B3.cell (p := ⟨wr.heap.size, 0, none⟩) (by simp)).trans ((cell_of_row _ _ 0 _ _ _ (heap_alloc_new _ _)).trans rfl)
          have st3 := (hst.below ((Below.refl _ _).alloc (Nat.le_refl _) _)).below B3
          clear hst B3
          replace st3 := Lib.hid st3
          replace zc := Lib.hid zc
          go_wp2_with fail
          refine (sealm_nil _ _).mono ?_
          rintro x _ ⟨rfl, rfl⟩
          go_wp2_with fail
          refine (cbn.out _).mono ?_
          rintro x w4 ⟨g4, rfl, -, -, B4⟩
          have st4 := st3.out.below B4
          have zd := (B4.cell (block_lt_of_cell zc.out)).trans zc.out
          clear st3 B4 zc
          replace st4 := Lib.hid st4
          replace zd := Lib.hid zd
          go_wp2_with fail
          refine (openm_off _ _ _ _ zd.out).mono ?_
          rintro x _ ⟨rfl, rfl⟩
          clear zd
          go_wp2_with (first
            | refine wpList_load_b (by rfl) 23 (.tmp 4) rfl w.heap.size rfl 23 m st4.out.key _ Try.underlying23 rfl iM.out ?_)
          refine (cnn.out _).mono ?_
          rintro x w5 ⟨b5, rfl, -, S5, B5⟩
          have L5 := st4.out.low.trans (B5.mono st4.out.low.size)
          clear st4 B5 cnn
          replace L5 := Lib.hid L5
          replace S5 := Lib.hid S5
          go_wp2_with fail
          refine (cbn.out _).mono ?_
          rintro x w6 ⟨g6, rfl, -, -, B6⟩
          have L6 := L5.out.trans (B6.mono L5.out.size)
          have S6 := S5.out.below B6 S5.out.lt
          clear B6 L5 S5 cbn
          replace L6 := Lib.hid L6
          replace S6 := Lib.hid S6
          go_wp2_with fail
          refine (sealm_none _ b5 m n lm.out S6.out _ _).mono ?_
          rintro x _ ⟨rfl, rfl⟩
          clear S6
          go_wp2_with fail
          refine (al.out _).mono ?_
          rintro x w7 ⟨rfl, B7⟩
          have low := L6.out.trans (B7.mono L6.out.size)
          replace low := Lib.hid low
          go_wp2_with fail
          go_ret
          exact ⟨rfl, low.out⟩
  · have c1 := Lib.hid (fun wx => count_bad wx e he)
    replace r0 := Lib.hid r0
    replace b0 := Lib.hid b0
    replace iM := Lib.hid iM
    replace hls := Lib.hid hls
    replace el := Lib.hid el
    replace lm := Lib.hid lm
    replace sm := Lib.hid sm
    go_enter Try.func7, Try.ntmps7
    go_wp2_with fail
    refine (c1.out _).mono ?_
    rintro x _ ⟨rfl, rfl⟩
    clear c1
    go_wp2_with fail
    refine (al.out _).mono ?_
    rintro x w2 ⟨rfl, B2⟩
    have low := b0.out.trans (B2.mono b0.out.size)
    replace low := Lib.hid low
    go_wp2_with fail
    go_ret
    exact ⟨rfl, low.out⟩
end Go.Proofs.Ytecmagenlbnchaa
