/-
  aes.New, first half: a new cipher with its boxes and its products.
-/
import Derived.Test.YtecmagenlbnchaaQAesRowF
import Derived.Test.YtecmagenlbnchaaQAesCols
import Derived.Test.YtecmagenlbnchaaQAesVec
namespace Go.Proofs.Ytecmagenlbnchaa
set_option maxRecDepth 100000
open Go.RowKit

theorem boxed_put : Boxed (putL (putL (fun _ => 0) 240 (tabN 256 gbox)) 496 (unbTo 256)) := by
  refine ⟨fun i hi => ?_, fun i hi => ?_⟩
  · unfold putL
    rw [length_unbTo, length_tabN, if_neg (by omega), if_pos (by omega), show 240 + i - 240 = i by omega]
    simp [byt, List.getD, tabN_get gbox hi]
  · unfold putL
    rw [length_unbTo, if_pos (by omega), show 496 + i - 496 = i by omega]
    rfl
theorem Boxed.put {F : Nat → Nat} (h : Boxed F) {i : Nat} (hi : i < 240 ∨ 752 ≤ i) (v : Nat) : Boxed (putF F i v) := by
  refine ⟨fun k hk => ?_, fun k hk => ?_⟩
  · unfold putF; rw [if_neg (by omega)]; exact h.1 k hk
  · unfold putF; rw [if_neg (by omega)]; exact h.2 k hk
/-- The factors. -/
def facs : List Nat := [1, 2, 3, 9, 11, 13, 14]
/-- The products of the first j factors lie there. -/
def Muls (F : Nat → Nat) (j : Nat) : Prop := ∀ q, q < j → ∀ i, i < 256 → F (752 + 256 * byt facs q + i) = gmul (byt facs q) i
/-- .. and of the next those of the first n bytes. -/
def Part (F : Nat → Nat) (f n : Nat) : Prop := ∀ i, i < n → F (752 + 256 * f + i) = gmul f i
theorem facs_ne {q j : Nat} (hj : j < 7) (hq : q < j) : byt facs q ≠ byt facs j := by
  have : ∀ j, j < 7 → ∀ q, q < j → byt facs q ≠ byt facs j := by decide
  exact this j hj q hq
theorem facs_lt {j : Nat} (hj : j < 7) : byt facs j < 15 := by
  have : ∀ j, j < 7 → byt facs j < 15 := by decide
  exact this j hj
theorem Muls.put {F : Nat → Nat} {j : Nat} (h : Muls F j) (hj : j < 7) {i : Nat} (hi : i < 256) (v : Nat) : Muls (putF F (752 + 256 * byt facs j + i) v) j := fun q hq k hk => by
  have hne := facs_ne hj hq
  unfold putF
  rw [if_neg (by omega)]
  exact h q hq k hk
theorem Part.put {F : Nat → Nat} {f n : Nat} (h : Part F f n) : Part (putF F (752 + 256 * f + n) (gmul f n)) f (n + 1) := fun k hk => by
  unfold putF
  by_cases e : k = n
  · subst e; rw [if_pos rfl]
  · rw [if_neg (by omega)]; exact h k (by omega)
theorem Muls.next {F : Nat → Nat} {j : Nat} (h : Muls F j) (hp : Part F (byt facs j) 256) : Muls F (j + 1) := fun q hq k hk => by
  by_cases e : q = j
  · subst e; exact hp k hk
  · exact h q (by omega) k hk
theorem tabs_of {F : Nat → Nat} (hB : Boxed F) (h : Muls F 7) : Tabs F := by
  refine ⟨hB, fun f hf i hi => ?_⟩
  obtain ⟨q, hq, rfl⟩ : ∃ q, q < 7 ∧ f = byt facs q := by
    have : ∀ f, f < 15 → f ∈ [1, 2, 3, 9, 11, 13, 14] → ∃ q, q < 7 ∧ f = byt facs q := by decide
    exact this f (by simp at hf; omega) hf
  exact h q hq i hi

theorem wp_copy_cells {P : Program} {o : Oper} {a : Act} {w : World} {K : Act → World → Prop} {Q : Exit → Act → World → Prop} (d s : Operand) (dT sT : TypeId)
    (ho : o.op = .call { callee := .builtin .copy, args := #[d, s], argTypes := #[dT, sT] }) (elem : TypeId) (hu : P.underlying dT = some (.slice elem)) (hsz : (P.info? elem).map (·.size) = some 1)
    (g off dLen dCap : Nat) (ad : Addr) (sLen sCap : Nat) (hd : a.eval d = .slice (some ⟨g, off, none⟩) dLen dCap) (hs : a.eval s = .slice (some ad) sLen sCap)
    (cs : List Value) (hn : cs.length = Nat.min sLen dLen) (hsrc : ∀ j v, cs[j]? = some v → w.cell? (ad.add j) = some v) (ht : w.there g off cs.length) (h1 : ∀ v ∈ cs, v.oneCell' = true)
    (h : K (a.put o.dst (goInt cs.length)) (w.setCells g off cs)) : o.wp P a w K Q := by
  have hrun := run_copy_cells (P := P) w dT sT o.type elem g off dLen dCap ad sLen sCap cs hu hsz hn hsrc (fun j hj => (ht j hj).1) (fun j hj => (ht j hj).2) h1
  unfold Oper.wp
  simp [execOp, ho, resolve, invoke, builtin, hd, hs, hrun, Result.andThen]
  exact h

theorem run_key (b k : Nat) (hk : k < 8) : ∀ x, (Instr.sliceAt 23 (.pointer (some ⟨b, 0, none⟩)) (some (.int .i64 (4 * (k : Int)))) none none).run Try.prog x = .ok (.slice (some ⟨b, 4 * k, none⟩) (32 - 4 * k) (32 - 4 * k)) x := by
  intro x
  have hl : Try.prog.arrayLen 23 = 32 := by kernel_rfl
  have hu : Try.prog.underlying 23 = some (.array (Try.prog.arrayLen 23) (Try.prog.elem 23)) := by kernel_rfl
  rw [run_sliceAt_array_l (P := Try.prog) x 23 _ hu .i64 (4 * (k : Int)) (by omega) (by rw [hl]; omega), hl]
  have hs : (sizeOf (Try.prog.elem 23)).run Try.prog x = .ok 1 x := by
    obtain ⟨i, hi, h1⟩ : ∃ i, Try.prog.info? (Try.prog.elem 23) = some i ∧ i.size = 1 := by
      have h1 : (Try.prog.info? (Try.prog.elem 23)).map (·.size) = some 1 := by kernel_rfl
      cases hq : Try.prog.info? (Try.prog.elem 23) with
      | none => simp [hq] at h1
      | some i => exact ⟨i, rfl, by simpa [hq] using h1⟩
    simp [sizeOf, typeInfo, hi, h1]
  have hn : (4 * (k : Int)).toNat = 4 * k := by omega
  rw [hs, hn]
  simp only [Result.andThen, slicedAt, Nat.mul_one]
  rw [if_neg (by omega), Addr.add_lit, Nat.zero_add]
theorem Tabs.put {F : Nat → Nat} (h : Tabs F) {i : Nat} (hi : i < 240) (v : Nat) : Tabs (putF F i v) := by
  refine ⟨h.1.put (.inl hi) v, fun f hf k hk => ?_⟩
  unfold putF; rw [if_neg (by omega)]; exact h.2 f hf k hk
theorem Tabs.putL {F : Nat → Nat} (h : Tabs F) {o : Nat} {l : List Nat} (hi : o + l.length ≤ 240) : Tabs (putL F o l) := by
  refine ⟨⟨fun k hk => ?_, fun k hk => ?_⟩, fun f hf k hk => ?_⟩
  · unfold Proofs.Ytecmagenlbnchaa.putL; rw [if_neg (by omega)]; exact h.1.1 k hk
  · unfold Proofs.Ytecmagenlbnchaa.putL; rw [if_neg (by omega)]; exact h.1.2 k hk
  · unfold Proofs.Ytecmagenlbnchaa.putL; rw [if_neg (by omega)]; exact h.2 f hf k hk
theorem Wd.putL {F key : Nat → Nat} {i : Nat} (h : Wd F key i) (h8 : i < 8) : Wd (putL F (4 * i) (tabN 4 (fun k => key (4 * i + k)))) key (i + 1) := by
  refine WdPart.next ⟨fun q hq => ?_, fun q hq => ?_⟩
  · unfold Proofs.Ytecmagenlbnchaa.putL; rw [if_neg (by omega)]; exact h q hq
  · unfold Proofs.Ytecmagenlbnchaa.putL
    rw [length_tabN, if_pos (by omega), nextW_lo key _ h8, show 4 * i + q - 4 * i = q by omega]
    rfl
theorem WdPart.put {F key : Nat → Nat} {i k : Nat} (h : WdPart F key i k) : WdPart (putF F (4 * i + k) (byt (nextW key (wordsTo key i) i) k)) key i (k + 1) := by
  refine ⟨fun q hq => ?_, fun q hq => ?_⟩
  · unfold putF; rw [if_neg (by omega)]; exact h.1 q hq
  · unfold putF
    by_cases e : q = k
    · subst e; rw [if_pos rfl]
    · rw [if_neg (by omega)]; exact h.2 q (by omega)
theorem size_u8s4 (f : Nat → Nat) : (u8s (tabN 4 f)).size = 4 := by simp [u8s, length_tabN]
theorem rot_list (L : List Nat) {i : Nat} (h : i % 8 = 0) : [prevW L i 1, prevW L i 2, prevW L i 3, prevW L i 0] = tabN 4 (rotW L i) := by
  show _ = [rotW L i 0, rotW L i 1, rotW L i 2, rotW L i 3]
  unfold rotW
  simp [h]
theorem rot_same (L : List Nat) {i : Nat} (h : ¬ i % 8 = 0) : tabN 4 (prevW L i) = tabN 4 (rotW L i) := tabN_ext fun k _ => by unfold rotW; rw [if_neg h]
theorem box_same (L : List Nat) {i : Nat} (h : ¬ i % 4 = 0) : tabN 4 (rotW L i) = tabN 4 (boxW L i) := tabN_ext fun k _ => by unfold boxW; rw [if_neg h]
theorem box_up (L : List Nat) {i : Nat} (h : i % 4 = 0) (k : Nat) : gbox (rotW L i k) = boxW L i k := by unfold boxW; rw [if_pos h]
theorem pow_same (L : List Nat) {i : Nat} (h : ¬ i % 8 = 0) : tabN 4 (boxW L i) = tabN 4 (powW L i) := tabN_ext fun k _ => by unfold powW; rw [if_neg (fun e => h e.1)]
theorem pow_list (L : List Nat) {i : Nat} (h : i % 8 = 0) : (tabN 4 (boxW L i)).set 0 (boxW L i 0 ^^^ gpow 2 (i / 8 - 1)) = tabN 4 (powW L i) := by
  show [boxW L i 0 ^^^ gpow 2 (i / 8 - 1), boxW L i 1, boxW L i 2, boxW L i 3] = [powW L i 0, powW L i 1, powW L i 2, powW L i 3]
  unfold powW
  simp [h]
theorem upTo_zero {n : Nat} (g f : Nat → Nat) : tabN n (upTo 0 g f) = tabN n f := tabN_ext fun _ _ => by simp [upTo]
theorem upTo_self (k : Nat) (g f : Nat → Nat) : upTo k g f k = f k := by unfold upTo; rw [if_neg (Nat.lt_irrefl k)]
theorem next_byte (key : Nat → Nat) {i k : Nat} (h8 : ¬ i < 8) (hk : k < 4) : byt (wordsTo key i) (4 * (i - 8) + k) ^^^ powW (wordsTo key i) i k = byt (nextW key (wordsTo key i) i) k := by
  rw [nextW_hi key _ h8, byt_range4 _ hk]

/-- The loop over the words: what it keeps. -/
structure WordSt (w wr : World) (key : List Nat) (F : Nat → Nat) (i : Nat) : Prop where
  s : NewSt w wr key F
  t : Tabs F
  d : Wd F (byt key) i
/-- .. within the making of one word; the word lies at block g. -/
structure OneSt (w wr : World) (key : List Nat) (F : Nat → Nat) (g : Nat) (l : List Nat) : Prop where
  s : NewSt w wr key F
  t : Tabs F
  r : RowB wr g 115 l
  far : w.heap.size + 1 < g
theorem OneSt.drew {w wr : World} {key : List Nat} {F : Nat → Nat} {g : Nat} {l : List Nat} (h : OneSt w wr key F g l) : OneSt w wr.drew key F g l := ⟨h.s.drew, h.t, h.r, h.far⟩
theorem OneSt.setR {w wr : World} {key : List Nat} {F : Nat → Nat} {g : Nat} {l : List Nat} (h : OneSt w wr key F g l) (i v : Nat) : OneSt w (wr.setCell ⟨g, i, none⟩ (.int .u8 (v : Int))) key F g (l.set i v) := by
  have hf := h.far
  exact ⟨⟨h.s.k.other (heap_setCell_other _ _ _ _ (show w.heap.size ≠ g by omega)), h.s.c.stay (heap_setCell_other _ _ _ _ (show w.heap.size + 1 ≠ g by omega)), h.s.low.setCell (p := ⟨g, i, none⟩) (show w.heap.size ≤ g by omega) _⟩, h.t, h.r.set i v, hf⟩
theorem OneSt.upd {w wr w' : World} {key : List Nat} {F : Nat → Nat} {g : Nat} {l l' : List Nat} (h : OneSt w wr key F g l) (hr : RowB w' g 115 l') (hU : Upd (fun i => i = g) wr w') : OneSt w w' key F g l' := by
  have hf := h.far
  exact ⟨⟨h.s.k.other (hU.block _ h.s.k.lt (by omega)), h.s.c.stay (hU.block _ h.s.c.size (by omega)), h.s.low.trans (hU.below (fun k hk e => by omega) h.s.low.size)⟩, h.t, hr, hf⟩
theorem OneSt.setF {w wr : World} {key : List Nat} {F : Nat → Nat} {g : Nat} {l : List Nat} (h : OneSt w wr key F g l) {i : Nat} (hi : i < 240) (v : Nat) : OneSt w (wr.setCell ⟨w.heap.size + 1, 1 + i, none⟩ (.int .u8 (v : Int))) key (putF F i v) g l := by
  have hf := h.far
  exact ⟨h.s.set i v, h.t.put hi v, h.r.other (heap_setCell_other _ _ _ _ (show g ≠ w.heap.size + 1 by omega)), hf⟩

set_option maxHeartbeats 4000000 in
set_option maxRecDepth 100000 in
theorem new_any (w : World) (key : List Nat) (hk : key.length = 32) (hs : ∀ i, byt key i < 256) :
    Calls Try.prog 69 #[.agg (u8s key)] w fun e w' => ∃ b, e = .returned (.pointer (some ⟨b, 0, none⟩)) ∧ w.heap.size ≤ b ∧ CipherAt w' b (byt (wordsOf (byt key))) ∧ Below w.heap.size w w' := by
  have s0 := NewSt.begin w key
  replace s0 := Lib.hid s0
  replace hs := Lib.hid hs
  go_enter Try.func69, Try.ntmps69
  go_wp2_with (first
    | (refine Go.Great.wpList_buildTo rfl 120 _ rfl _ rfl newCells (by kernel_rfl) ?_)
    | (refine Go.Great.wpList_boxTo rfl 120 (.tmp 11) rfl _ rfl _ rfl newCells rfl ?_))
  refine (boxes_any _).mono ?_
  rintro e w1 ⟨rfl, B1⟩
  have s1 := s0.out.below B1
  have i1 : (Try.prog.info? 117).map (·.size) = some (u8s (tabN 256 gbox)).size := by rw [show (u8s (tabN 256 gbox)).size = 256 by simp [u8s, length_tabN]]; rfl
  have i2 : (Try.prog.info? 117).map (·.size) = some (u8s (unbTo 256)).size := by rw [show (u8s (unbTo 256)).size = 256 by simp only [u8s, List.size_toArray, List.length_map, length_unbTo]]; rfl
  have t1 : w1.there (w.heap.size + 1) 241 (u8s (tabN 256 gbox)).size := s1.c.there (o := 240) (by simp [u8s, length_tabN])
  have s2 := s1.setL 240 (tabN 256 gbox)
  have t2 : (w1.setCells (w.heap.size + 1) 241 (u8s (tabN 256 gbox)).toList).there (w.heap.size + 1) 497 (u8s (unbTo 256)).size := s2.c.there (o := 496) (by simp only [u8s, List.size_toArray, List.length_map, length_unbTo]; decide)
  have s3 := s2.setL 496 (unbTo 256)
  have b3 := boxed_put
  have o1 : (u8s (tabN 256 gbox)).all (·.oneCell') = true := all_oneCell_toArray (by simp [Value.oneCell'])
  have o2 : (u8s (unbTo 256)).all (·.oneCell') = true := all_oneCell_toArray (by simp [Value.oneCell'])
  generalize tabN 256 gbox = L1 at *
  generalize unbTo 256 = L2 at *
  generalize putL (putL (fun _ => 0) 240 L1) 496 L2 = F3 at *
  obtain ⟨w3, hw3⟩ : ∃ w3, w3 = (w1.setCells (w.heap.size + 1) 241 (u8s L1).toList).setCells (w.heap.size + 1) 497 (u8s L2).toList := ⟨_, rfl⟩
  have s3' : NewSt w w3 key F3 := by rw [hw3]; exact s3
  clear s2 s3 s1 B1 s0
  replace s3' := Lib.hid s3'
  replace b3 := Lib.hid b3
  replace hw3 := Lib.hid hw3
  go_wp2_with (first
    | (refine wpList_store_mid (by rfl) 117 (.tmp 20) (.tmp 17) rfl (w.heap.size + 1) 241 (u8s L1) rfl rfl t1 i1 o1 ?_)
    | (refine wpList_store_mid (by rfl) 117 (.tmp 22) (.tmp 18) rfl (w.heap.size + 1) 497 (u8s L2) rfl rfl t2 i2 o2 ?_
       rw [← hw3.out]))
  go_loopw [24] (fun jv wr => ∃ (j : Nat) (F : Nat → Nat), j ≤ 7 ∧ jv = .int .i64 j ∧ NewSt w wr key F ∧ Boxed F ∧ Muls F j) (fun jv _ => 7 - (intOf jv).toNat)
  case atStart => exact ⟨0, F3, by decide, rfl, s3'.out, b3.out, fun q hq => by omega⟩
  case round =>
    clear s3' b3 hw3 t1 t2 o1 o2
    obtain ⟨j, F, hj7, rfl, st, hB, hM⟩ := hrel
    by_cases hj : j < 7
    · have hget : (u8s facs)[j]? = some (.int .u8 (byt facs j : Int)) := by
        simp [u8s, byt, List.getD, show j < facs.length from hj]
      have hidx := fun y => run_index_row (P := Try.prog) y 129 5 7 #[.int .u8 1, .int .u8 2, .int .u8 3, .int .u8 9, .int .u8 11, .int .u8 13, .int .u8 14] .i64 j (.int .u8 (byt facs j : Int)) Try.underlying129 plain8 size8u hj hget
      clear hget
      have d7 : decide ((j : Int) < 7) = true := decide_eq_true (by omega)
      replace st := Lib.hid st
      replace hB := Lib.hid hB
      replace hM := Lib.hid hM
      go_wp2_with fail
      go_loopw [27] (fun iv wr => ∃ (i : Nat) (F : Nat → Nat), i ≤ 256 ∧ iv = .int .i64 i ∧ NewSt w wr key F ∧ Boxed F ∧ Muls F j ∧ Part F (byt facs j) i) (fun iv _ => 256 - (intOf iv).toNat)
      case atStart => exact ⟨0, F, by decide, rfl, st.out, hB.out, hM.out, fun q hq => by omega⟩
      case round =>
        clear st hB hM F
        obtain ⟨i, F, hi256, rfl, st, hB, hM, hP⟩ := hrel
        by_cases hi : i < 256
        · have f1 : IntKind.u8.wrap (i : Int) = (i : Int) := IntWalk.u8_in _ (by omega)
          have lf := facs_lt hj
          have cm := Lib.hid (fun wr => gmul_any (byt facs j) i wr (by omega) hi)
          have cC := st.c.cell (i := 752 + 256 * byt facs j + i) (by omega)
          have fC := st.c.froz (753 + byt facs j * 256 + i)
          have nS := st.set (752 + 256 * byt facs j + i) (gmul (byt facs j) i)
          have nB := hB.put (i := 752 + 256 * byt facs j + i) (by omega) (gmul (byt facs j) i)
          have nM := hM.put hj hi (gmul (byt facs j) i)
          have nP := hP.put
          have ea : 1 + (752 + 256 * byt facs j + i) = 753 + byt facs j * 256 + i := by omega
          rw [ea] at cC nS
          have l15 : ((byt facs j : Nat) : Int) < 15 := by omega
          have l256 : (i : Int) < 256 := by omega
          generalize putF F (752 + 256 * byt facs j + i) (gmul (byt facs j) i) = F2 at *
          generalize F (752 + 256 * byt facs j + i) = old at *
          clear st hB hM hP ea hidx
          replace nS := Lib.hid nS
          replace nB := Lib.hid nB
          replace nM := Lib.hid nM
          replace nP := Lib.hid nP
          replace lf := Lib.hid lf
          go_wp2_with fail
          refine wp_region_held_drew (S := (fun _ => True)) (by kernel_rfl) (trivial) (fun hHeld => ?_)
          refine held_take (i := 0) (v := ?_) rfl (by kernel_rfl) (by kernel_rfl) (by kernel_rfl) (fun _ _ _ h => h) (Or.inl ⟨by rfl, ?_⟩) (by assumption) ?_
          rotate_left
          · intro w hSw; (try dsimp only at hSw); go_simp; try with_reducible rfl
          try simp only [Act.put, List.setIfInBounds_toArray, List.set_cons_zero, List.set_cons_succ]
          refine held_take (i := 1) (v := ?_) rfl (by kernel_rfl) (by kernel_rfl) (by kernel_rfl) (fun _ _ _ h => h) (Or.inl ⟨by rfl, ?_⟩) (by assumption) ?_
          rotate_left
          · intro w hSw; (try dsimp only at hSw); go_simp; try with_reducible rfl
          try simp only [Act.put, List.setIfInBounds_toArray, List.set_cons_zero, List.set_cons_succ]
          refine held_take (i := 2) (v := ?_) rfl (by kernel_rfl) (by kernel_rfl) (by kernel_rfl) (fun _ _ _ h => h) (Or.inl ⟨by rfl, ?_⟩) (by assumption) ?_
          rotate_left
          · intro w hSw; (try dsimp only at hSw); go_simp; try with_reducible rfl
          try simp only [Act.put, List.setIfInBounds_toArray, List.set_cons_zero, List.set_cons_succ]
          refine held_take (i := 3) (v := ?_) rfl (by kernel_rfl) (by kernel_rfl) (by kernel_rfl) (fun _ _ _ h => h) (Or.inl ⟨by rfl, ?_⟩) (by assumption) ?_
          rotate_left
          · intro w hSw; (try dsimp only at hSw); go_simp; try with_reducible rfl
          try simp only [Act.put, List.setIfInBounds_toArray, List.set_cons_zero, List.set_cons_succ]
          refine held_take (i := 4) (v := ?_) rfl (by kernel_rfl) (by kernel_rfl) (by kernel_rfl) (fun _ _ _ h => h) (Or.inl ⟨by rfl, ?_⟩) (by assumption) ?_
          rotate_left
          · intro w hSw; (try dsimp only at hSw); go_simp; try with_reducible rfl
          try simp only [Act.put, List.setIfInBounds_toArray, List.set_cons_zero, List.set_cons_succ]
          refine held_take (i := 5) (v := ?_) rfl (by kernel_rfl) (by kernel_rfl) (by kernel_rfl) (fun _ _ _ h => h) (Or.inl ⟨by rfl, ?_⟩) (by assumption) ?_
          rotate_left
          · intro w hSw; (try dsimp only at hSw); go_simp; try with_reducible rfl
          try simp only [Act.put, List.setIfInBounds_toArray, List.set_cons_zero, List.set_cons_succ]
          refine held_take (i := 7) (v := ?_) rfl (by kernel_rfl) (by kernel_rfl) (by kernel_rfl) (fun _ _ _ h => h) (Or.inl ⟨by rfl, ?_⟩) (by assumption) ?_
          rotate_left
          · intro w hSw; (try dsimp only at hSw); go_simp; try with_reducible rfl
          try simp only [Act.put, List.setIfInBounds_toArray, List.set_cons_zero, List.set_cons_succ]
          refine held_take (i := 8) (v := ?_) rfl (by kernel_rfl) (by kernel_rfl) (by kernel_rfl) (fun _ _ _ h => h) (Or.inl ⟨by rfl, ?_⟩) (by assumption) ?_
          rotate_left
          · intro w hSw; (try dsimp only at hSw); go_simp; try with_reducible rfl
          try simp only [Act.put, List.setIfInBounds_toArray, List.set_cons_zero, List.set_cons_succ]
          refine held_take (i := 9) (v := ?_) rfl (by kernel_rfl) (by kernel_rfl) (by kernel_rfl) (fun _ _ _ h => h) (Or.inl ⟨by rfl, ?_⟩) (by assumption) ?_
          rotate_left
          · intro w hSw; (try dsimp only at hSw); go_simp; try with_reducible rfl
          try simp only [Act.put, List.setIfInBounds_toArray, List.set_cons_zero, List.set_cons_succ]
          refine held_ready (i := 6) rfl (by kernel_rfl) (fun K hK => ?_)
          go_simp
          refine (cm.out _).mono ?_
          rintro e w4 ⟨rfl, rfl⟩
          refine hK.out _ _ (trivial) (fun hHeldN => ?_)
          clear hHeld hK K
          have hHeld := hHeldN
          clear hHeldN
          try simp only [Act.put, List.setIfInBounds_toArray, List.set_cons_zero, List.set_cons_succ]
          refine held_take (i := 10) (v := ?_) rfl (by kernel_rfl) (by kernel_rfl) (by kernel_rfl) (fun _ _ _ h => h) (Or.inl ⟨by rfl, ?_⟩) (by assumption) ?_
          rotate_left
          · intro w hSw; (try dsimp only at hSw); go_simp; try with_reducible rfl
          try simp only [Act.put, List.setIfInBounds_toArray, List.set_cons_zero, List.set_cons_succ]
          refine held_ready (i := 11) rfl (by kernel_rfl) (fun K hK => ?_)
          go_simp
          refine hK.out _ _ (trivial) (fun hHeldN => ?_)
          clear hHeld hK K
          have hHeld := hHeldN
          clear hHeldN
          try simp only [Act.put, List.setIfInBounds_toArray, List.set_cons_zero, List.set_cons_succ]
          refine wpAnyH_done (by kernel_rfl) ?_ _
          clear hHeld
          go_wp2_with fail
          go_roundw
          case rel =>
            exact ⟨i + 1, F2, by omega, by go_num, nS.out.drew, nB.out, nM.out, nP.out⟩
          case measure => simp [intOf]; omega
        · obtain rfl : i = 256 := by omega
          have nM := hM.next hP
          replace st := Lib.hid st
          replace hB := Lib.hid hB
          replace nM := Lib.hid nM
          replace hM := Lib.hid hM
          replace hP := Lib.hid hP
          go_wp2_with fail
          go_roundw
          case rel => exact ⟨j + 1, F, by omega, by go_num, st.out, hB.out, nM.out⟩
          case measure => simp [intOf]; omega
    · obtain rfl : j = 7 := by omega
      have hT := tabs_of hB hM
      simp only [show ((7 : Nat) : Int) = 7 from rfl]
      replace st := Lib.hid st
      replace hT := Lib.hid hT
      replace hB := Lib.hid hB
      replace hM := Lib.hid hM
      go_wp2_with fail
      go_loopw [43] (fun iv wr => ∃ (i : Nat) (F : Nat → Nat), i ≤ 60 ∧ iv = .int .i64 i ∧ WordSt w wr key F i) (fun iv _ => 60 - (intOf iv).toNat)
      case atStart => exact ⟨0, F, by decide, rfl, ⟨st.out, hT.out, fun q hq => by omega⟩⟩
      case round =>
        clear st hT hB hM F
        obtain ⟨i, F, hi60, rfl, st⟩ := hrel
        by_cases hi : i < 60
        · by_cases h8 : i < 8
          · have hsl := run_key w.heap.size i h8
            have nd := st.d.putL h8
            have nt := st.t.putL (o := 4 * i) (l := tabN 4 (fun k => byt key (4 * i + k))) (by rw [length_tabN]; omega)
            have ns := st.s.drew.setL (4 * i) (tabN 4 (fun k => byt key (4 * i + k)))
            have hl4 : (u8s (tabN 4 (fun k => byt key (4 * i + k)))).toList.length = 4 := by simp [u8s, length_tabN]
            have hth : wr.drew.there (w.heap.size + 1) (1 + i * 4) (u8s (tabN 4 (fun k => byt key (4 * i + k)))).toList.length := by
              rw [hl4, show 1 + i * 4 = 1 + 4 * i by omega]
              exact st.s.drew.c.there (o := 4 * i) (n := 4) (by omega)
            have hsrc : ∀ j v, (u8s (tabN 4 (fun k => byt key (4 * i + k)))).toList[j]? = some v → wr.drew.cell? (Addr.add ⟨w.heap.size, 4 * i, none⟩ j) = some v := fun j v hv => by
              have hj : j < 4 := by rw [← hl4]; exact (List.getElem?_eq_some_iff.1 hv).1
              have e : (u8s (tabN 4 (fun k => byt key (4 * i + k)))).toList[j]? = some (.int .u8 (byt key (4 * i + j) : Int)) := by simp [u8s, tabN, hj]
              rw [e] at hv
              cases hv
              rw [Addr.add_lit]
              exact st.s.drew.k.byt (by rw [hk]; omega)
            have ho1 : ∀ v ∈ (u8s (tabN 4 (fun k => byt key (4 * i + k)))).toList, v.oneCell' = true := by simp [u8s, Value.oneCell']
            have f2 : IntKind.i64.wrap (4 * (i : Int)) = 4 * (i : Int) := IntWalk.i64_in _ (by omega)
            have f3 : (i : Int) < 60 := by omega
            rw [show 1 + 4 * i = 1 + i * 4 by omega] at ns
            generalize putL F (4 * i) (tabN 4 (fun k => byt key (4 * i + k))) = F2 at *
            generalize (u8s (tabN 4 (fun k => byt key (4 * i + k)))).toList = cs at *
            replace st := Lib.hid st
            replace nd := Lib.hid nd
            replace nt := Lib.hid nt
            replace ns := Lib.hid ns
            replace hth := Lib.hid hth
            replace hsrc := Lib.hid hsrc
            replace ho1 := Lib.hid ho1
            replace hl4 := Lib.hid hl4
            go_wp2_with fail
            refine wp_region_held_drew (S := (fun _ => True)) (by kernel_rfl) (trivial) (fun hHeld => ?_)
            refine held_take (i := 0) (v := ?_) rfl (by kernel_rfl) (by kernel_rfl) (by kernel_rfl) (fun _ _ _ h => h) (Or.inl ⟨by rfl, ?_⟩) (by assumption) ?_
            rotate_left
            · intro w hSw; (try dsimp only at hSw); go_simp; try with_reducible rfl
            try simp only [Act.put, List.setIfInBounds_toArray, List.set_cons_zero, List.set_cons_succ]
            refine held_take (i := 1) (v := ?_) rfl (by kernel_rfl) (by kernel_rfl) (by kernel_rfl) (fun _ _ _ h => h) (Or.inl ⟨by rfl, ?_⟩) (by assumption) ?_
            rotate_left
            · intro w hSw; (try dsimp only at hSw); go_simp; try with_reducible rfl
            try simp only [Act.put, List.setIfInBounds_toArray, List.set_cons_zero, List.set_cons_succ]
            refine held_take (i := 2) (v := ?_) rfl (by kernel_rfl) (by kernel_rfl) (by kernel_rfl) (fun _ _ _ h => h) (Or.inl ⟨by rfl, ?_⟩) (by assumption) ?_
            rotate_left
            · intro w hSw; (try dsimp only at hSw); go_simp; try with_reducible rfl
            try simp only [Act.put, List.setIfInBounds_toArray, List.set_cons_zero, List.set_cons_succ]
            refine held_take (i := 3) (v := ?_) rfl (by kernel_rfl) (by kernel_rfl) (by kernel_rfl) (fun _ _ _ h => h) (Or.inl ⟨by rfl, ?_⟩) (by assumption) ?_
            rotate_left
            · intro w hSw; (try dsimp only at hSw); go_simp; try with_reducible rfl
            try simp only [Act.put, List.setIfInBounds_toArray, List.set_cons_zero, List.set_cons_succ]
            refine held_take (i := 4) (v := ?_) rfl (by kernel_rfl) (by kernel_rfl) (by kernel_rfl) (fun _ _ _ h => h) (Or.inl ⟨by rfl, ?_⟩) (by assumption) ?_
            rotate_left
            · intro w hSw; (try dsimp only at hSw); go_simp; try with_reducible rfl
            try simp only [Act.put, List.setIfInBounds_toArray, List.set_cons_zero, List.set_cons_succ]
            refine held_take (i := 5) (v := ?_) rfl (by kernel_rfl) (by kernel_rfl) (by kernel_rfl) (fun _ _ _ h => h) (Or.inl ⟨by rfl, ?_⟩) (by assumption) ?_
            rotate_left
            · intro w hSw; (try dsimp only at hSw); go_simp; try with_reducible rfl
            try simp only [Act.put, List.setIfInBounds_toArray, List.set_cons_zero, List.set_cons_succ]
            refine held_take (i := 6) (v := ?_) rfl (by kernel_rfl) (by kernel_rfl) (by kernel_rfl) (fun _ _ _ h => h) (Or.inl ⟨by rfl, ?_⟩) (by assumption) ?_
            rotate_left
            · intro w hSw; (try dsimp only at hSw); go_simp; try with_reducible rfl
            try simp only [Act.put, List.setIfInBounds_toArray, List.set_cons_zero, List.set_cons_succ]
            refine held_take (i := 7) (v := ?_) rfl (by kernel_rfl) (by kernel_rfl) (by kernel_rfl) (fun _ _ _ h => h) (Or.inl ⟨by rfl, ?_⟩) (by assumption) ?_
            rotate_left
            · intro w hSw; (try dsimp only at hSw); go_simp; try with_reducible rfl
            try simp only [Act.put, List.setIfInBounds_toArray, List.set_cons_zero, List.set_cons_succ]
            refine held_take (i := 8) (v := ?_) rfl (by kernel_rfl) (by kernel_rfl) (by kernel_rfl) (fun _ _ _ h => h) (Or.inl ⟨by rfl, ?_⟩) (by assumption) ?_
            rotate_left
            · intro w hSw; (try dsimp only at hSw); go_simp; try with_reducible rfl
            try simp only [Act.put, List.setIfInBounds_toArray, List.set_cons_zero, List.set_cons_succ]
            refine held_ready (i := 9) rfl (by kernel_rfl) (fun K hK => ?_)
            rw [if_pos (by rfl)]
            refine wp_copy_cells (.tmp 53) (.tmp 56) 25 25 rfl 5 Try.underlying25 size8u (w.heap.size + 1) (1 + i * 4) 4 4 ⟨w.heap.size, 4 * i, none⟩ (32 - 4 * i) (32 - 4 * i) rfl rfl cs (by rw [hl4.out]; exact (Nat.min_eq_right (by omega)).symm) hsrc.out hth.out ho1.out ?_
            refine hK.out _ _ (trivial) (fun hHeldN => ?_)
            clear hHeld hK K
            have hHeld := hHeldN
            clear hHeldN
            try simp only [Act.put, List.setIfInBounds_toArray, List.set_cons_zero, List.set_cons_succ]
            refine wpAnyH_done (by kernel_rfl) ?_ _
            clear hHeld
            go_wp2_with fail
            go_roundw
            case rel => exact ⟨i + 1, F2, by omega, by go_num, ⟨ns.out, nt.out, nd.out⟩⟩
            case measure => simp [intOf]; omega
          · obtain ⟨wq, rfl⟩ : ∃ wq : World, wq = wr := ⟨_, rfl⟩
            obtain ⟨p, hp⟩ : ∃ p, p = i - 1 := ⟨_, rfl⟩
            obtain ⟨L, hL⟩ : ∃ L, L = wordsTo (byt key) i := ⟨_, rfl⟩
            have sL : ∀ q, byt L q < 256 := by rw [hL]; exact words_lt hs.out i
            have f1 : IntKind.i64.wrap ((i : Int) - 1) = (p : Int) := by rw [IntWalk.i64_in _ (by omega)]; omega
            have f1' : (i : Int) - 1 = (p : Int) := by omega
            have f3 : (i : Int) < 60 := by omega
            have f8 : decide ((i : Int) < 8) = false := decide_eq_false (by omega)
            have hr0 : wq.rangeAt (w.heap.size + 1) (1 + p * 4) (u8s (tabN 4 (prevW L i))).toList := by
              have h0 := st.s.c.range (o := 4 * p) (n := 4) (by omega)
              rw [show 1 + 4 * p = 1 + p * 4 by omega, tabN_ext (g := prevW L i) (fun k hk => ?_)] at h0
              · exact h0
              · rw [st.d _ (by omega), ← hL, hp]; rfl
            have i4 : (Try.prog.info? 115).map (·.size) = some (u8s (tabN 4 (prevW L i))).toList.length := by rw [show (u8s (tabN 4 (prevW L i))).toList.length = 4 by simp [u8s, length_tabN]]; rfl
            have i4' : ∀ f, (Try.prog.info? 115).map (·.size) = some (u8s (tabN 4 f)).size := fun f => by rw [show (u8s (tabN 4 f)).size = 4 by simp [u8s, length_tabN]]; rfl
            have z4 : ∀ f f', (u8s (tabN 4 f)).size = (u8s (tabN 4 f')).size := fun f f' => by simp [u8s, length_tabN]
            have mk0 : ∀ w5, RowB w5 wq.heap.size 115 (tabN 4 (prevW L i)) → Below wq.heap.size wq w5 → OneSt w w5 key F wq.heap.size (tabN 4 (prevW L i)) := fun w5 R B => ⟨st.s.below B, st.t, R, st.s.c.size⟩
            have wd0 := st.d
            replace st := Lib.hid st
            replace hL := Lib.hid hL
            replace hp := Lib.hid hp
            replace sL := Lib.hid sL
            replace i4' := Lib.hid i4'
            replace z4 := Lib.hid z4
            replace mk0 := Lib.hid mk0
            replace wd0 := Lib.hid wd0
            obtain ⟨d8, hd8⟩ : ∃ d, d = i / 8 - 1 := ⟨_, rfl⟩
            obtain ⟨e8, he8⟩ : ∃ d, d = i / 8 := ⟨_, rfl⟩
            have f9 : IntKind.i64.wrap ((i : Int) / 8) = (e8 : Int) := by rw [IntWalk.i64_in _ (by omega)]; omega
            obtain ⟨a8, ha8⟩ : ∃ d, d = i - 8 := ⟨_, rfl⟩
            have f10 : IntKind.i64.wrap ((i : Int) - 8) = (a8 : Int) := by rw [IntWalk.i64_in _ (by omega)]; omega
            have f10' : (i : Int) - 8 = (a8 : Int) := by omega
            have f11 : (a8 : Int) < 60 := by omega
            replace hd8 := Lib.hid hd8
            replace he8 := Lib.hid he8
            replace ha8 := Lib.hid ha8
            by_cases m8 : i % 8 = 0
            · have m4 : i % 4 = 0 := by omega
              have g8 : ((i : Int)).tmod 8 = 0 := by rw [Int.tmod_eq_emod_of_nonneg (by omega)]; omega
              have g4 : ((i : Int)).tmod 4 = 0 := by rw [Int.tmod_eq_emod_of_nonneg (by omega)]; omega
              replace m8 := Lib.hid m8
              replace m4 := Lib.hid m4
              go_wp2_with (first
                | (refine wpList_load_mid (by rfl) 115 (.tmp 63) rfl (w.heap.size + 1) (1 + p * 4) rfl _ _ hr0 Try.underlying115 rfl i4 ?_)
                | (refine wpList_store_n (by rfl) 115 (.tmp 8) (.tmp 64) rfl (tabN 4 (prevW L i)) rfl rfl (i4'.out _) (by rw [size_u8s4]; rfl) ?_
                   intro w5 R5 B5
                   have c0 : w5.cell? ⟨wq.heap.size, 0, none⟩ = some (.int .u8 (prevW L i 0 : Int)) := R5.out.cell (tabN_get _ (by decide))
                   have c1 : w5.cell? ⟨wq.heap.size, 1, none⟩ = some (.int .u8 (prevW L i 1 : Int)) := R5.out.cell (tabN_get _ (by decide))
                   have c2 : w5.cell? ⟨wq.heap.size, 2, none⟩ = some (.int .u8 (prevW L i 2 : Int)) := R5.out.cell (tabN_get _ (by decide))
                   have c3 : w5.cell? ⟨wq.heap.size, 3, none⟩ = some (.int .u8 (prevW L i 3 : Int)) := R5.out.cell (tabN_get _ (by decide)))
                | (refine wpList_store_s (by rfl) 115 (.tmp 8) (.tmp 76) rfl wq.heap.size [prevW L i 1, prevW L i 2, prevW L i 3, prevW L i 0] rfl rfl 115 _ R5.out (by exact i4'.out (prevW L i)) rfl ?_
                   intro w6 R6 U6))
              have sA := (mk0.out w5 R5.out B5.out).upd R6.out U6.out
              rw [rot_list L m8.out] at sA
              clear c0 c1 c2 c3 R6 U6 B5 R5
              replace sA := Lib.hid sA
              go_loopw [80] (fun kv wr2 => ∃ k : Nat, k ≤ 4 ∧ kv = .int .i64 k ∧ OneSt w wr2 key F wq.heap.size (tabN 4 (upTo k (boxW L i) (rotW L i)))) (fun kv _ => 4 - (intOf kv).toNat)
              case atStart => exact ⟨0, by decide, rfl, by rw [upTo_zero]; exact sA.out⟩
              case round =>
                clear sA
                obtain ⟨k, hk4, rfl, sB⟩ := hrel
                by_cases hk4' : k < 4
                · have cg := sB.r.cell (tabN_get (upTo k (boxW L i) (rotW L i)) hk4')
                  rw [upTo_self] at cg
                  have l1 := rotW_lt sL.out i k
                  have cb := sB.s.c.cell (i := 240 + rotW L i k) (by omega)
                  rw [sB.t.1.1 _ l1, box_up L m4.out k, show 1 + (240 + rotW L i k) = 241 + rotW L i k by omega] at cb
                  have fr := sB.r.frozen k
                  have nS := sB.setR k (boxW L i k)
                  rw [tabN_up] at nS
                  have lk : (k : Int) < 4 := by omega
                  have lv : ((rotW L i k : Nat) : Int) < 256 := by omega
                  generalize boxW L i k = y at cb nS
                  generalize rotW L i k = v at *
                  clear sB l1
                  replace nS := Lib.hid nS
                  go_wp2_with fail
                  go_region
                  all_goals
                    go_wp2_with fail
                    go_roundw
                    case rel => exact ⟨k + 1, by omega, by go_num, nS.out.drew⟩
                    case measure => simp [intOf]; omega
                · obtain rfl : k = 4 := by omega
                  have sB2 := sB
                  rw [tabN_all] at sB2
                  clear sB
                  replace sB2 := Lib.hid sB2
                  have sC := sB2.out
                  have p0 := sC.r.cell (tabN_get (boxW L i) (show 0 < 4 by decide))
                  have fr := sC.r.frozen 0
                  have l1 := boxW_lt sL.out i 0
                  have l2 : gpow 2 (i / 8 - 1) < 256 := gpow_lt _ (by decide)
                  have ex := u8_xor_nat _ _ l1 l2
                  have nS := sC.setR 0 (boxW L i 0 ^^^ gpow 2 (i / 8 - 1))
                  rw [pow_list L m8.out] at nS
                  have cp := Lib.hid (fun wx => gpow_any 2 (i / 8 - 1) wx (by decide) (by omega))
                  rw [← hd8.out] at ex nS cp
                  have f12 : IntKind.i64.wrap ((e8 : Int) - 1) = (d8 : Int) := by rw [IntWalk.i64_in _ (by have := he8.out; omega)]; have := he8.out; have := hd8.out; omega
                  generalize boxW L i 0 ^^^ gpow 2 d8 = y at *
                  generalize boxW L i 0 = u at *
                  generalize gpow 2 d8 = v at *
                  clear sC l1 l2
                  replace nS := Lib.hid nS
                  go_wp2_with fail
                  refine wp_region_held_drew (S := (fun _ => True)) (by kernel_rfl) (trivial) (fun hHeld => ?_)
                  refine held_take (i := 0) (v := ?_) rfl (by kernel_rfl) (by kernel_rfl) (by kernel_rfl) (fun _ _ _ h => h) (Or.inl ⟨by rfl, ?_⟩) (by assumption) ?_
                  rotate_left
                  · intro w hSw; (try dsimp only at hSw); go_simp; try with_reducible rfl
                  try simp only [Act.put, List.setIfInBounds_toArray, List.set_cons_zero, List.set_cons_succ]
                  refine held_take (i := 2) (v := ?_) rfl (by kernel_rfl) (by kernel_rfl) (by kernel_rfl) (fun _ _ _ h => h) (Or.inl ⟨by rfl, ?_⟩) (by assumption) ?_
                  rotate_left
                  · intro w hSw; (try dsimp only at hSw); go_simp; try with_reducible rfl
                  try simp only [Act.put, List.setIfInBounds_toArray, List.set_cons_zero, List.set_cons_succ]
                  refine held_take (i := 3) (v := ?_) rfl (by kernel_rfl) (by kernel_rfl) (by kernel_rfl) (fun _ _ _ h => h) (Or.inl ⟨by rfl, ?_⟩) (by assumption) ?_
                  rotate_left
                  · intro w hSw; (try dsimp only at hSw); go_simp; try with_reducible rfl
                  try simp only [Act.put, List.setIfInBounds_toArray, List.set_cons_zero, List.set_cons_succ]
                  refine held_take (i := 4) (v := ?_) rfl (by kernel_rfl) (by kernel_rfl) (by kernel_rfl) (fun _ _ _ h => h) (Or.inl ⟨by rfl, ?_⟩) (by assumption) ?_
                  rotate_left
                  · intro w hSw; (try dsimp only at hSw); go_simp; try with_reducible rfl
                  try simp only [Act.put, List.setIfInBounds_toArray, List.set_cons_zero, List.set_cons_succ]
                  refine held_ready2 (i := 1) (j := 5) rfl rfl (by kernel_rfl) (fun K hK => ?_) (fun K hK => ?_)
                  · go_simp
                    refine hK.out _ _ (trivial) (fun hHeldN => ?_)
                    clear hHeld hK K
                    have hHeld := hHeldN
                    clear hHeldN
                    try simp only [Act.put, List.setIfInBounds_toArray, List.set_cons_zero, List.set_cons_succ]
                    refine held_ready (i := 5) rfl (by kernel_rfl) (fun K hK => ?_)
                    go_simp
                    refine (cp.out _).mono ?_
                    rintro e w7 ⟨rfl, rfl⟩
                    refine hK.out _ _ (trivial) (fun hHeldN => ?_)
                    clear hHeld hK K
                    have hHeld := hHeldN
                    clear hHeldN
                    try simp only [Act.put, List.setIfInBounds_toArray, List.set_cons_zero, List.set_cons_succ]
                    refine held_take (i := 6) (v := ?_) rfl (by kernel_rfl) (by kernel_rfl) (by kernel_rfl) (fun _ _ _ h => h) (Or.inl ⟨by rfl, ?_⟩) (by assumption) ?_
                    rotate_left
                    · intro w hSw; (try dsimp only at hSw); go_simp; try with_reducible rfl
                    try simp only [Act.put, List.setIfInBounds_toArray, List.set_cons_zero, List.set_cons_succ]
                    refine held_take (i := 7) (v := ?_) rfl (by kernel_rfl) (by kernel_rfl) (by kernel_rfl) (fun _ _ _ h => h) (Or.inl ⟨by rfl, ?_⟩) (by assumption) ?_
                    rotate_left
                    · intro w hSw; (try dsimp only at hSw); go_simp; try with_reducible rfl
                    try simp only [Act.put, List.setIfInBounds_toArray, List.set_cons_zero, List.set_cons_succ]
                    refine held_ready (i := 8) rfl (by kernel_rfl) (fun K hK => ?_)
                    go_simp
                    refine hK.out _ _ (trivial) (fun hHeldN => ?_)
                    clear hHeld hK K
                    have hHeld := hHeldN
                    clear hHeldN
                    try simp only [Act.put, List.setIfInBounds_toArray, List.set_cons_zero, List.set_cons_succ]
                    refine wpAnyH_done (by kernel_rfl) ?_ _
                    clear hHeld
                    have sF := Lib.hid nS.out.drew
                    clear nS sB2
                    go_wp2_with fail
                    go_loopw [105] (fun kv wr2 => ∃ (k : Nat) (F : Nat → Nat), k ≤ 4 ∧ kv = .int .i64 k ∧ OneSt w wr2 key F wq.heap.size (tabN 4 (powW L i)) ∧ WdPart F (byt key) i k) (fun kv _ => 4 - (intOf kv).toNat)
                    case atStart => exact ⟨0, F, by decide, rfl, sF.out, WdPart.none wd0.out⟩
                    case round =>
                      clear sF wd0 mk0 st
                      obtain ⟨k, F, hk4, rfl, sF, wp⟩ := hrel
                      by_cases hk4' : k < 4
                      · have cg := sF.r.cell (tabN_get (powW L i) hk4')
                        have cb := sF.s.c.cell (i := 4 * a8 + k) (by omega)
                        have ca := sF.s.c.cell (i := 4 * i + k) (by omega)
                        have fa := sF.s.c.froz (1 + i * 4 + k)
                        have eb : F (4 * a8 + k) = byt L (4 * a8 + k) := by rw [wp.1 _ (by have := ha8.out; omega), hL.out]
                        have l1 := sL.out (4 * a8 + k)
                        have l2 := powW_lt sL.out i k
                        have ex := u8_xor_nat _ _ l1 l2
                        have en : byt L (4 * a8 + k) ^^^ powW L i k = byt (nextW (byt key) (wordsTo (byt key) i) i) k := by rw [hL.out, ha8.out]; exact next_byte (byt key) h8 hk4'
                        rw [en] at ex
                        rw [eb] at cb
                        have nS := sF.setF (i := 4 * i + k) (by omega) (byt (nextW (byt key) (wordsTo (byt key) i) i) k)
                        have nW := wp.put
                        rw [show 1 + (4 * a8 + k) = 1 + a8 * 4 + k by omega] at cb
                        rw [show 1 + (4 * i + k) = 1 + i * 4 + k by omega] at ca nS
                        have lk : (k : Int) < 4 := by omega
                        generalize putF F (4 * i + k) (byt (nextW (byt key) (wordsTo (byt key) i) i) k) = F2 at *
                        generalize byt (nextW (byt key) (wordsTo (byt key) i) i) k = y at *
                        generalize byt L (4 * a8 + k) = u at *
                        generalize powW L i k = v at *
                        generalize F (4 * i + k) = old at *
                        clear wp eb l1 l2 en sF
                        replace nS := Lib.hid nS
                        replace nW := Lib.hid nW
                        go_wp2_with fail
                        go_region
                        all_goals
                          go_wp2_with fail
                          go_roundw
                          case rel => exact ⟨k + 1, F2, by omega, by go_num, nS.out.drew, nW.out⟩
                          case measure => simp [intOf]; omega
                      · obtain rfl : k = 4 := by omega
                        have nW := wp.next
                        replace nW := Lib.hid nW
                        replace wp := Lib.hid wp
                        replace sF := Lib.hid sF
                        go_wp2_with fail
                        go_roundw
                        case rel => exact ⟨i + 1, F, by omega, by go_num, ⟨sF.out.s, sF.out.t, nW.out⟩⟩
                        case measure => simp [intOf]; omega
                  · go_simp
                    refine (cp.out _).mono ?_
                    rintro e w7 ⟨rfl, rfl⟩
                    refine hK.out _ _ (trivial) (fun hHeldN => ?_)
                    clear hHeld hK K
                    have hHeld := hHeldN
                    clear hHeldN
                    try simp only [Act.put, List.setIfInBounds_toArray, List.set_cons_zero, List.set_cons_succ]
                    refine held_ready (i := 1) rfl (by kernel_rfl) (fun K hK => ?_)
                    go_simp
                    refine hK.out _ _ (trivial) (fun hHeldN => ?_)
                    clear hHeld hK K
                    have hHeld := hHeldN
                    clear hHeldN
                    try simp only [Act.put, List.setIfInBounds_toArray, List.set_cons_zero, List.set_cons_succ]
                    refine held_take (i := 6) (v := ?_) rfl (by kernel_rfl) (by kernel_rfl) (by kernel_rfl) (fun _ _ _ h => h) (Or.inl ⟨by rfl, ?_⟩) (by assumption) ?_
                    rotate_left
                    · intro w hSw; (try dsimp only at hSw); go_simp; try with_reducible rfl
                    try simp only [Act.put, List.setIfInBounds_toArray, List.set_cons_zero, List.set_cons_succ]
                    refine held_take (i := 7) (v := ?_) rfl (by kernel_rfl) (by kernel_rfl) (by kernel_rfl) (fun _ _ _ h => h) (Or.inl ⟨by rfl, ?_⟩) (by assumption) ?_
                    rotate_left
                    · intro w hSw; (try dsimp only at hSw); go_simp; try with_reducible rfl
                    try simp only [Act.put, List.setIfInBounds_toArray, List.set_cons_zero, List.set_cons_succ]
                    refine held_ready (i := 8) rfl (by kernel_rfl) (fun K hK => ?_)
                    go_simp
                    refine hK.out _ _ (trivial) (fun hHeldN => ?_)
                    clear hHeld hK K
                    have hHeld := hHeldN
                    clear hHeldN
                    try simp only [Act.put, List.setIfInBounds_toArray, List.set_cons_zero, List.set_cons_succ]
                    refine wpAnyH_done (by kernel_rfl) ?_ _
                    clear hHeld
                    have sF := Lib.hid nS.out.drew
                    clear nS sB2
                    go_wp2_with fail
                    go_loopw [105] (fun kv wr2 => ∃ (k : Nat) (F : Nat → Nat), k ≤ 4 ∧ kv = .int .i64 k ∧ OneSt w wr2 key F wq.heap.size (tabN 4 (powW L i)) ∧ WdPart F (byt key) i k) (fun kv _ => 4 - (intOf kv).toNat)
                    case atStart => exact ⟨0, F, by decide, rfl, sF.out, WdPart.none wd0.out⟩
                    case round =>
                      clear sF wd0 mk0 st
                      obtain ⟨k, F, hk4, rfl, sF, wp⟩ := hrel
                      by_cases hk4' : k < 4
                      · have cg := sF.r.cell (tabN_get (powW L i) hk4')
                        have cb := sF.s.c.cell (i := 4 * a8 + k) (by omega)
                        have ca := sF.s.c.cell (i := 4 * i + k) (by omega)
                        have fa := sF.s.c.froz (1 + i * 4 + k)
                        have eb : F (4 * a8 + k) = byt L (4 * a8 + k) := by rw [wp.1 _ (by have := ha8.out; omega), hL.out]
                        have l1 := sL.out (4 * a8 + k)
                        have l2 := powW_lt sL.out i k
                        have ex := u8_xor_nat _ _ l1 l2
                        have en : byt L (4 * a8 + k) ^^^ powW L i k = byt (nextW (byt key) (wordsTo (byt key) i) i) k := by rw [hL.out, ha8.out]; exact next_byte (byt key) h8 hk4'
                        rw [en] at ex
                        rw [eb] at cb
                        have nS := sF.setF (i := 4 * i + k) (by omega) (byt (nextW (byt key) (wordsTo (byt key) i) i) k)
                        have nW := wp.put
                        rw [show 1 + (4 * a8 + k) = 1 + a8 * 4 + k by omega] at cb
                        rw [show 1 + (4 * i + k) = 1 + i * 4 + k by omega] at ca nS
                        have lk : (k : Int) < 4 := by omega
                        generalize putF F (4 * i + k) (byt (nextW (byt key) (wordsTo (byt key) i) i) k) = F2 at *
                        generalize byt (nextW (byt key) (wordsTo (byt key) i) i) k = y at *
                        generalize byt L (4 * a8 + k) = u at *
                        generalize powW L i k = v at *
                        generalize F (4 * i + k) = old at *
                        clear wp eb l1 l2 en sF
                        replace nS := Lib.hid nS
                        replace nW := Lib.hid nW
                        go_wp2_with fail
                        go_region
                        all_goals
                          go_wp2_with fail
                          go_roundw
                          case rel => exact ⟨k + 1, F2, by omega, by go_num, nS.out.drew, nW.out⟩
                          case measure => simp [intOf]; omega
                      · obtain rfl : k = 4 := by omega
                        have nW := wp.next
                        replace nW := Lib.hid nW
                        replace wp := Lib.hid wp
                        replace sF := Lib.hid sF
                        go_wp2_with fail
                        go_roundw
                        case rel => exact ⟨i + 1, F, by omega, by go_num, ⟨sF.out.s, sF.out.t, nW.out⟩⟩
                        case measure => simp [intOf]; omega
            · obtain ⟨r8, hr8⟩ : ∃ r, r = i % 8 := ⟨_, rfl⟩
              have g8 : ((i : Int)).tmod 8 = (r8 : Int) := by rw [Int.tmod_eq_emod_of_nonneg (by omega)]; omega
              have g8' : ((r8 : Int) == 0) = false := beq_eq_false_iff_ne.2 (by omega)
              replace hr8 := Lib.hid hr8
              replace m8 := Lib.hid m8
              by_cases m4 : i % 4 = 0
              · have g4 : ((i : Int)).tmod 4 = 0 := by rw [Int.tmod_eq_emod_of_nonneg (by omega)]; omega
                replace m4 := Lib.hid m4
                go_wp2_with (first
                  | (refine wpList_load_mid (by rfl) 115 (.tmp 63) rfl (w.heap.size + 1) (1 + p * 4) rfl _ _ hr0 Try.underlying115 rfl i4 ?_)
                  | (refine wpList_store_n (by rfl) 115 (.tmp 8) (.tmp 64) rfl (tabN 4 (prevW L i)) rfl rfl (i4'.out _) (by rw [size_u8s4]; rfl) ?_; intro w5 R5 B5))
                have sA := mk0.out w5 R5.out B5.out
                rw [rot_same L m8.out] at sA
                clear B5 R5
                replace sA := Lib.hid sA
                go_loopw [80] (fun kv wr2 => ∃ k : Nat, k ≤ 4 ∧ kv = .int .i64 k ∧ OneSt w wr2 key F wq.heap.size (tabN 4 (upTo k (boxW L i) (rotW L i)))) (fun kv _ => 4 - (intOf kv).toNat)
                case atStart => exact ⟨0, by decide, rfl, by rw [upTo_zero]; exact sA.out⟩
                case round =>
                  clear sA
                  obtain ⟨k, hk4, rfl, sB⟩ := hrel
                  by_cases hk4' : k < 4
                  · have cg := sB.r.cell (tabN_get (upTo k (boxW L i) (rotW L i)) hk4')
                    rw [upTo_self] at cg
                    have l1 := rotW_lt sL.out i k
                    have cb := sB.s.c.cell (i := 240 + rotW L i k) (by omega)
                    rw [sB.t.1.1 _ l1, box_up L m4.out k, show 1 + (240 + rotW L i k) = 241 + rotW L i k by omega] at cb
                    have fr := sB.r.frozen k
                    have nS := sB.setR k (boxW L i k)
                    rw [tabN_up] at nS
                    have lk : (k : Int) < 4 := by omega
                    have lv : ((rotW L i k : Nat) : Int) < 256 := by omega
                    generalize boxW L i k = y at cb nS
                    generalize rotW L i k = v at *
                    clear sB l1
                    replace nS := Lib.hid nS
                    go_wp2_with fail
                    go_region
                    all_goals
                      go_wp2_with fail
                      go_roundw
                      case rel => exact ⟨k + 1, by omega, by go_num, nS.out.drew⟩
                      case measure => simp [intOf]; omega
                  · obtain rfl : k = 4 := by omega
                    have sB2 := sB
                    rw [tabN_all] at sB2
                    clear sB
                    replace sB2 := Lib.hid sB2
                    have sF := sB2.out
                    rw [pow_same L m8.out] at sF
                    clear sB2
                    replace sF := Lib.hid sF
                    go_wp2_with fail
                    go_loopw [105] (fun kv wr2 => ∃ (k : Nat) (F : Nat → Nat), k ≤ 4 ∧ kv = .int .i64 k ∧ OneSt w wr2 key F wq.heap.size (tabN 4 (powW L i)) ∧ WdPart F (byt key) i k) (fun kv _ => 4 - (intOf kv).toNat)
                    case atStart => exact ⟨0, F, by decide, rfl, sF.out, WdPart.none wd0.out⟩
                    case round =>
                      clear sF wd0 mk0 st
                      obtain ⟨k, F, hk4, rfl, sF, wp⟩ := hrel
                      by_cases hk4' : k < 4
                      · have cg := sF.r.cell (tabN_get (powW L i) hk4')
                        have cb := sF.s.c.cell (i := 4 * a8 + k) (by omega)
                        have ca := sF.s.c.cell (i := 4 * i + k) (by omega)
                        have fa := sF.s.c.froz (1 + i * 4 + k)
                        have eb : F (4 * a8 + k) = byt L (4 * a8 + k) := by rw [wp.1 _ (by have := ha8.out; omega), hL.out]
                        have l1 := sL.out (4 * a8 + k)
                        have l2 := powW_lt sL.out i k
                        have ex := u8_xor_nat _ _ l1 l2
                        have en : byt L (4 * a8 + k) ^^^ powW L i k = byt (nextW (byt key) (wordsTo (byt key) i) i) k := by rw [hL.out, ha8.out]; exact next_byte (byt key) h8 hk4'
                        rw [en] at ex
                        rw [eb] at cb
                        have nS := sF.setF (i := 4 * i + k) (by omega) (byt (nextW (byt key) (wordsTo (byt key) i) i) k)
                        have nW := wp.put
                        rw [show 1 + (4 * a8 + k) = 1 + a8 * 4 + k by omega] at cb
                        rw [show 1 + (4 * i + k) = 1 + i * 4 + k by omega] at ca nS
                        have lk : (k : Int) < 4 := by omega
                        generalize putF F (4 * i + k) (byt (nextW (byt key) (wordsTo (byt key) i) i) k) = F2 at *
                        generalize byt (nextW (byt key) (wordsTo (byt key) i) i) k = y at *
                        generalize byt L (4 * a8 + k) = u at *
                        generalize powW L i k = v at *
                        generalize F (4 * i + k) = old at *
                        clear wp eb l1 l2 en sF
                        replace nS := Lib.hid nS
                        replace nW := Lib.hid nW
                        go_wp2_with fail
                        go_region
                        all_goals
                          go_wp2_with fail
                          go_roundw
                          case rel => exact ⟨k + 1, F2, by omega, by go_num, nS.out.drew, nW.out⟩
                          case measure => simp [intOf]; omega
                      · obtain rfl : k = 4 := by omega
                        have nW := wp.next
                        replace nW := Lib.hid nW
                        replace wp := Lib.hid wp
                        replace sF := Lib.hid sF
                        go_wp2_with fail
                        go_roundw
                        case rel => exact ⟨i + 1, F, by omega, by go_num, ⟨sF.out.s, sF.out.t, nW.out⟩⟩
                        case measure => simp [intOf]; omega
              · obtain ⟨r4, hr4⟩ : ∃ r, r = i % 4 := ⟨_, rfl⟩
                have g4 : ((i : Int)).tmod 4 = (r4 : Int) := by rw [Int.tmod_eq_emod_of_nonneg (by omega)]; omega
                have g4' : ((r4 : Int) == 0) = false := beq_eq_false_iff_ne.2 (by omega)
                replace hr4 := Lib.hid hr4
                replace m4 := Lib.hid m4
                go_wp2_with (first
                  | (refine wpList_load_mid (by rfl) 115 (.tmp 63) rfl (w.heap.size + 1) (1 + p * 4) rfl _ _ hr0 Try.underlying115 rfl i4 ?_)
                  | (refine wpList_store_n (by rfl) 115 (.tmp 8) (.tmp 64) rfl (tabN 4 (prevW L i)) rfl rfl (i4'.out _) (by rw [size_u8s4]; rfl) ?_; intro w5 R5 B5))
                have sF := mk0.out w5 R5.out B5.out
                rw [rot_same L m8.out, box_same L m4.out, pow_same L m8.out] at sF
                clear B5 R5
                replace sF := Lib.hid sF
                go_loopw [105] (fun kv wr2 => ∃ (k : Nat) (F : Nat → Nat), k ≤ 4 ∧ kv = .int .i64 k ∧ OneSt w wr2 key F wq.heap.size (tabN 4 (powW L i)) ∧ WdPart F (byt key) i k) (fun kv _ => 4 - (intOf kv).toNat)
                case atStart => exact ⟨0, F, by decide, rfl, sF.out, WdPart.none wd0.out⟩
                case round =>
                  clear sF wd0 mk0 st
                  obtain ⟨k, F, hk4, rfl, sF, wp⟩ := hrel
                  by_cases hk4' : k < 4
                  · have cg := sF.r.cell (tabN_get (powW L i) hk4')
                    have cb := sF.s.c.cell (i := 4 * a8 + k) (by omega)
                    have ca := sF.s.c.cell (i := 4 * i + k) (by omega)
                    have fa := sF.s.c.froz (1 + i * 4 + k)
                    have eb : F (4 * a8 + k) = byt L (4 * a8 + k) := by rw [wp.1 _ (by have := ha8.out; omega), hL.out]
                    have l1 := sL.out (4 * a8 + k)
                    have l2 := powW_lt sL.out i k
                    have ex := u8_xor_nat _ _ l1 l2
                    have en : byt L (4 * a8 + k) ^^^ powW L i k = byt (nextW (byt key) (wordsTo (byt key) i) i) k := by rw [hL.out, ha8.out]; exact next_byte (byt key) h8 hk4'
                    rw [en] at ex
                    rw [eb] at cb
                    have nS := sF.setF (i := 4 * i + k) (by omega) (byt (nextW (byt key) (wordsTo (byt key) i) i) k)
                    have nW := wp.put
                    rw [show 1 + (4 * a8 + k) = 1 + a8 * 4 + k by omega] at cb
                    rw [show 1 + (4 * i + k) = 1 + i * 4 + k by omega] at ca nS
                    have lk : (k : Int) < 4 := by omega
                    generalize putF F (4 * i + k) (byt (nextW (byt key) (wordsTo (byt key) i) i) k) = F2 at *
                    generalize byt (nextW (byt key) (wordsTo (byt key) i) i) k = y at *
                    generalize byt L (4 * a8 + k) = u at *
                    generalize powW L i k = v at *
                    generalize F (4 * i + k) = old at *
                    clear wp eb l1 l2 en sF
                    replace nS := Lib.hid nS
                    replace nW := Lib.hid nW
                    go_wp2_with fail
                    go_region
                    all_goals
                      go_wp2_with fail
                      go_roundw
                      case rel => exact ⟨k + 1, F2, by omega, by go_num, nS.out.drew, nW.out⟩
                      case measure => simp [intOf]; omega
                  · obtain rfl : k = 4 := by omega
                    have nW := wp.next
                    replace nW := Lib.hid nW
                    replace wp := Lib.hid wp
                    replace sF := Lib.hid sF
                    go_wp2_with fail
                    go_roundw
                    case rel => exact ⟨i + 1, F, by omega, by go_num, ⟨sF.out.s, sF.out.t, nW.out⟩⟩
                    case measure => simp [intOf]; omega
        · obtain rfl : i = 60 := by omega
          have hb := words_lt (key := byt key) hs.out 60
          have hc := st.s.c.at_ (W := byt (wordsOf (byt key))) st.t st.d hb
          have low := st.s.low
          replace st := Lib.hid st
          replace hb := Lib.hid hb
          replace hc := Lib.hid hc
          replace low := Lib.hid low
          go_wp2_with fail
          go_ret
          exact ⟨w.heap.size + 1, rfl, by omega, hc.out, low.out⟩
end Go.Proofs.Ytecmagenlbnchaa
