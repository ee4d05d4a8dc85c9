/-
  keys: Open. Conditions: keys, salts, checks of 32 bytes; a wrapped key of 40.
  seal: turn, Seal, Open. Conditions: a key of 32 bytes; numbers of 64 bits.
  A text copied into a row; a block of 512 bytes. Condition: the text fits.
  Law 22: sealed and opened again; alive. Conditions: a block of 512 bytes; a key of 32.
  The reference of layer 22. Conditions: a key of 32 bytes; numbers of 64 bits.
  SealTurns. Conditions: a key of 32 bytes; numbers of 64 bits.
  SealBack. Conditions: a key of 32 bytes; numbers of 64 bits.
-/
import Derived.Test.YtecmagenlbnchaaQKeysBase
import Derived.Test.YtecmagenlbnchaaQKeysRow
import Derived.Test.YtecmagenlbnchaaQSecApart
import Derived.Test.YtecmagenlbnchaaQHmacExpand
import Derived.Test.YtecmagenlbnchaaQSealVec
import Derived.Test.YtecmagenlbnchaaQXtsTurn
import Derived.Test.YtecmagenlbnchaaQXtsVec
import Derived.Test.YtecmagenlbnchaaQKeyOne
import Derived.Test.YtecmagenlbnchaaQQuiet
import Derived.Test.YtecmagenlbnchaaQStr
import Derived.Lib.SlBytesConst
import Derived.Test.YtecmagenlbnchaaQRefStream
import Derived.Test.YtecmagenlbnchaaQWrapWraps07
import Derived.Test.YtecmagenlbnchaaQRef05f
namespace Go.Proofs.Ytecmagenlbnchaa
set_option maxRecDepth 100000
open Go.RowKit

/-- Open's error. -/
def openE (outer salt C WR : List Nat) : Int := if (baseK outer salt nmCheck == C) = true then (if unwE (byt (wordsOf (byt (baseK outer salt nmWrap)))) WR = 0 then 0 else 40) else 50
/-- Open's key. -/
def openL (outer salt C WR : List Nat) : List Nat := if openE outer salt C WR = 0 then (unL (byt (wordsOf (byt (baseK outer salt nmWrap)))) WR).drop 8 else List.replicate 32 0
/-- What Open keeps. -/
structure OpSt (w w' : World) (gx : Option Nat) (o S cur : List Nat) (m : List Nat) : Prop where
  o : RowB w' w.heap.size 23 o
  s : RowB w' (w.heap.size + 1) 51 S
  z : RowB w' (w.heap.size + 2) 23 (List.replicate 32 0)
  m : RowB w' (w.heap.size + 3) 23 m
  x : ∀ g, gx = some g → RowB w' g 23 cur ∧ w.heap.size + 4 ≤ g
  low : Below w.heap.size w w'
theorem OpSt.call {w w' w2 : World} {gx : Option Nat} {o S cur m : List Nat} (h : OpSt w w' gx o S cur m) (hB : Below w'.heap.size w' w2) : OpSt w w2 gx o S cur m :=
  ⟨h.o.below hB h.o.lt, h.s.below hB h.s.lt, h.z.below hB h.z.lt, h.m.below hB h.m.lt, fun g e => ⟨(h.x g e).1.below hB (h.x g e).1.lt, (h.x g e).2⟩, h.low.trans (hB.mono h.low.size)⟩
theorem OpSt.allocX {w w' : World} {g : Nat} {o S cur m : List Nat} (h : OpSt w w' none o S cur m) (hg : w'.heap.size = g) : OpSt w (w'.alloc (.cells (u8s (List.replicate 32 0)) 23)) (some g) o S (List.replicate 32 0) m := by
  subst hg
  have h2 := h.call ((Below.refl _ _).alloc (Nat.le_refl _) (.cells (u8s (List.replicate 32 0)) 23))
  exact ⟨h2.o, h2.s, h2.z, h2.m, fun g e => by cases e; exact ⟨heap_alloc_new _ _, by have := h.m.lt; omega⟩, h2.low⟩
theorem OpSt.put {w w' w2 : World} {g : Nat} {o S cur cur' m : List Nat} (h : OpSt w w' (some g) o S cur m) (hR : RowB w2 g 23 cur') (hU : Upd (fun i => i = g) w' w2) : OpSt w w2 (some g) o S cur' m := by
  have hg := (h.x g rfl).2
  exact ⟨h.o.other (hU.block _ h.o.lt (by omega)), h.s.other (hU.block _ h.s.lt (by omega)), h.z.other (hU.block _ h.z.lt (by omega)), h.m.other (hU.block _ h.m.lt (by omega)), fun k e => by cases e; exact ⟨hR, hg⟩, h.low.trans (hU.below (fun k hk e => by omega) h.low.size)⟩
theorem OpSt.begin (w : World) (o S : List Nat) : OpSt w ((((w.alloc (.cells (u8s o) 23)).alloc (.cells (u8s S) 51)).alloc (.cells (u8s (List.replicate 32 0)) 23)).alloc (.cells (u8s (List.replicate 32 0)) 23)) none o S [] (List.replicate 32 0) := by
  have r0 : RowB (w.alloc (.cells (u8s o) 23)) w.heap.size 23 o := heap_alloc_new _ _
  have r1 : RowB ((w.alloc (.cells (u8s o) 23)).alloc (.cells (u8s S) 51)) (w.heap.size + 1) 51 S := by
    rw [show w.heap.size + 1 = (w.alloc (.cells (u8s o) 23)).heap.size by simp]; exact heap_alloc_new _ _
  have r2 : RowB (((w.alloc (.cells (u8s o) 23)).alloc (.cells (u8s S) 51)).alloc (.cells (u8s (List.replicate 32 0)) 23)) (w.heap.size + 2) 23 (List.replicate 32 0) := by
    rw [show w.heap.size + 2 = ((w.alloc (.cells (u8s o) 23)).alloc (.cells (u8s S) 51)).heap.size by simp]; exact heap_alloc_new _ _
  have r3 : RowB ((((w.alloc (.cells (u8s o) 23)).alloc (.cells (u8s S) 51)).alloc (.cells (u8s (List.replicate 32 0)) 23)).alloc (.cells (u8s (List.replicate 32 0)) 23)) (w.heap.size + 3) 23 (List.replicate 32 0) := by
    rw [show w.heap.size + 3 = (((w.alloc (.cells (u8s o) 23)).alloc (.cells (u8s S) 51)).alloc (.cells (u8s (List.replicate 32 0)) 23)).heap.size by simp]; exact heap_alloc_new _ _
  exact ⟨((r0.alloc _).alloc _).alloc _, (r1.alloc _).alloc _, r2.alloc _, r3, fun g e => by simp at e, ((((Below.refl _ _).alloc (Nat.le_refl _) _).alloc (by simp) _).alloc (by simp; omega) _).alloc (by simp; omega) _⟩
theorem slot_parts {salt C WR : List Nat} (hs : salt.length = 32) (hC : C.length = 32) (hW : WR.length = 40) :
    ((salt ++ (C ++ WR)).drop 0).take salt.length = salt ∧ ((salt ++ (C ++ WR)).drop 32).take 32 = C ∧ ((salt ++ (C ++ WR)).drop 64).take 40 = WR ∧ (salt ++ (C ++ WR)).length = 104 := by
  refine ⟨by simp, ?_, ?_, by simp [hs, hC, hW]⟩
  · rw [List.drop_append, List.drop_eq_nil_of_le (by omega), hs]; simp [← hC]
  · rw [List.drop_append, List.drop_eq_nil_of_le (by omega), hs, List.nil_append, List.drop_append, List.drop_eq_nil_of_le (by omega), hC]; simp [← hW]

set_option maxHeartbeats 4000000 in
set_option maxRecDepth 100000 in
theorem open_any (w : World) (outer salt C WR : List Nat) (ho : outer.length = 32) (so : ∀ x ∈ outer, x < 256) (hs : salt.length = 32) (ss : ∀ x ∈ salt, x < 256) (hC : C.length = 32) (sC : ∀ x ∈ C, x < 256) (hW : WR.length = 40) (sW : ∀ x ∈ WR, x < 256) :
    Calls Try.prog 23 #[.agg (u8s outer), .agg (u8s (salt ++ (C ++ WR)))] w fun e w' => e = .returned (.tuple #[.agg (u8s (openL outer salt C WR)), .int .i64 (openE outer salt C WR)]) ∧ Below w.heap.size w w' := by
  have st0 := OpSt.begin w outer (salt ++ (C ++ WR))
  have cb1 := Lib.hid (fun wx => base_any wx outer salt nmCheck ⟨#[99, 104, 101, 99, 107]⟩ ho so hs ss text_check (by decide))
  have cb2 := Lib.hid (fun wx => base_any wx outer salt nmWrap ⟨#[119, 114, 97, 112]⟩ ho so hs ss text_wrap (by decide))
  have iO := infoKey ho
  have iS := infoA32 hs
  have lC := baseK_length outer salt nmCheck
  have bC := baseK_small outer salt nmCheck
  obtain ⟨p0, p1, p2, lS⟩ := slot_parts hs hC hW
  have sS : ∀ x ∈ salt ++ (C ++ WR), x < 256 := by
    intro x hx
    rcases List.mem_append.1 hx with h | h
    · exact ss x h
    · rcases List.mem_append.1 h with h | h
      · exact sC x h
      · exact sW x h
  have cu := Lib.hid (fun wx v (h : TextAt wx v WR) => unwrap_st wx (baseK outer salt nmWrap) (baseK_length _ _ _) (baseK_small _ _ _) v WR h (by omega))
  have lU : ((unL (byt (wordsOf (byt (baseK outer salt nmWrap)))) WR).drop 8).length = 32 := by rw [List.length_drop, length_unL, hW]
  have eE : openE outer salt C WR = if (baseK outer salt nmCheck == C) = true then (if unwE (byt (wordsOf (byt (baseK outer salt nmWrap)))) WR = 0 then 0 else 40) else 50 := rfl
  have eL : openL outer salt C WR = if openE outer salt C WR = 0 then (unL (byt (wordsOf (byt (baseK outer salt nmWrap)))) WR).drop 8 else List.replicate 32 0 := rfl
  have iZ : (Try.prog.info? 23).map (·.size) = some (u8s (List.replicate 32 0)).size := by rw [iO, size_u8s, size_u8s, ho]; simp
  have iC : (Try.prog.info? 23).map (·.size) = some (u8s (baseK outer salt nmCheck)).size := infoKey lC
  have iU := infoKey lU
  have zC : (u8s (List.replicate 32 0)).size = (u8s (baseK outer salt nmCheck)).size := by rw [size_u8s, size_u8s, lC]; simp
  generalize baseK outer salt nmCheck = C0 at *
  generalize openL outer salt C WR = LL at *
  generalize openE outer salt C WR = EE at *
  generalize (unL (byt (wordsOf (byt (baseK outer salt nmWrap)))) WR).drop 8 = UL at *
  generalize unwE (byt (wordsOf (byt (baseK outer salt nmWrap)))) WR = E at *
  generalize baseK outer salt nmWrap = KW at *
  generalize salt ++ (C ++ WR) = SL at *
  replace st0 := Lib.hid st0
  replace so := Lib.hid so
  replace ss := Lib.hid ss
  replace sC := Lib.hid sC
  replace sW := Lib.hid sW
  replace sS := Lib.hid sS
  replace lC := Lib.hid lC
  replace bC := Lib.hid bC
  replace ho := Lib.hid ho
  replace hs := Lib.hid hs
  replace hC := Lib.hid hC
  replace hW := Lib.hid hW
  replace p0 := Lib.hid p0
  replace p1 := Lib.hid p1
  replace p2 := Lib.hid p2
  replace lS := Lib.hid lS
  replace lU := Lib.hid lU
  replace eE := Lib.hid eE
  replace eL := Lib.hid eL
  replace iU := Lib.hid iU
  replace iZ := Lib.hid iZ
  go_enter Try.func23, Try.ntmps23
  have p0' := row_range st0.out.s p0.out (by rw [lS.out, hs.out]; decide)
  replace p0' := Lib.hid p0'
  go_wp2_with (first
    | refine wpList_load_b (by rfl) 23 (.tmp 2) rfl w.heap.size rfl 23 outer st0.out.o _ Try.underlying23 rfl iO ?_
    | refine wpList_load_part (by rfl) 22 (.tmp 11) rfl (w.heap.size + 1) 0 rfl salt Try.underlying22 iS p0'.out rfl ?_)
  refine (cb1.out _).mono ?_
  rintro e wx ⟨rfl, Bx⟩
  have st1 := st0.out.call Bx
  clear Bx
  replace st1 := Lib.hid st1
  go_wp2_with (first
    | (have h5 := st1.out.allocX rfl; have z5 := h5.x _ rfl
       refine wpList_store_s (by rfl) 23 (.tmp 7) (.tmp 13) rfl wx.heap.size C0 rfl rfl 23 _ z5.1 iC zC ?_
       intro w6 R6 U6
       have h6 := h5.put R6.out U6.out
       clear h5 z5 R6 U6 st1
       replace h6 := Lib.hid h6))
  have hD := h6.out.call (Below.refl _ _).drew
  have tC := row_whole (hD.x _ rfl).1 bC.out lC.out
  have tS := row_part2 (o := 32) (n := 32) hD.s p1.out (by rw [lS.out]; decide) sS.out
  have cs := Lib.hid (same_any w6.drew _ _ C0 C tC tS (by rw [lC.out]; decide) (by rw [hC.out]; decide))
  replace hD := Lib.hid hD
  clear tC tS h6
  refine wp_region_held_drew (S := (fun _ => True)) (by kernel_rfl) (trivial) (fun hHeld => ?_)
  refine held_take (i := 0) (v := ?_) rfl (by kernel_rfl) (by kernel_rfl) (by kernel_rfl) (fun _ _ _ h => h) (Or.inl ⟨by rfl, ?_⟩) (by assumption) ?_
  rotate_left
  · intro w hSw; (try dsimp only at hSw); go_simp; try with_reducible rfl
  try simp only [Act.put, List.setIfInBounds_toArray, List.set_cons_zero, List.set_cons_succ]
  refine held_take (i := 1) (v := ?_) rfl (by kernel_rfl) (by kernel_rfl) (by kernel_rfl) (fun _ _ _ h => h) (Or.inl ⟨by rfl, ?_⟩) (by assumption) ?_
  rotate_left
  · intro w hSw; (try dsimp only at hSw); go_simp; try with_reducible rfl
  try simp only [Act.put, List.setIfInBounds_toArray, List.set_cons_zero, List.set_cons_succ]
  refine held_take (i := 2) (v := ?_) rfl (by kernel_rfl) (by kernel_rfl) (by kernel_rfl) (fun _ _ _ h => h) (Or.inl ⟨by rfl, ?_⟩) (by assumption) ?_
  rotate_left
  · intro w hSw; (try dsimp only at hSw); go_simp; try with_reducible rfl
  try simp only [Act.put, List.setIfInBounds_toArray, List.set_cons_zero, List.set_cons_succ]
  refine held_ready (i := 3) rfl (by kernel_rfl) (fun K hK => ?_)
  go_simp
  refine cs.out.mono ?_
  rintro e w7 ⟨rfl, rfl⟩
  refine hK.out _ _ (trivial) (fun hHeldN => ?_)
  clear hHeld hK K
  have hHeld := hHeldN
  clear hHeldN
  try simp only [Act.put, List.setIfInBounds_toArray, List.set_cons_zero, List.set_cons_succ]
  refine held_take (i := 4) (v := ?_) rfl (by kernel_rfl) (by kernel_rfl) (by kernel_rfl) (fun _ _ _ h => h) (Or.inl ⟨by rfl, ?_⟩) (by assumption) ?_
  rotate_left
  · intro w hSw; (try dsimp only at hSw); go_simp; try with_reducible rfl
  try simp only [Act.put, List.setIfInBounds_toArray, List.set_cons_zero, List.set_cons_succ]
  refine wpAnyH_done (by kernel_rfl) ?_ _
  clear hHeld
  clear cs
  cases hb : (C0 == C) with
  | false =>
    rw [hb] at eE
    rw [if_neg (by decide)] at eE
    go_wp2_with (first
      | refine wpList_load_b (by rfl) 23 (.tmp 6) rfl (w.heap.size + 1 + 1 + 1) rfl 23 (List.replicate 32 0) hD.out.m _ Try.underlying23 rfl iZ.out ?_
      | (refine wpList_store_s (by rfl) 23 (.tmp 4) (.tmp 19) rfl (w.heap.size + 1 + 1) (List.replicate 32 0) rfl rfl 23 _ hD.out.z iZ.out rfl ?_; intro w9 R9 U9))
    have e1 : EE = 50 := eE.out
    have e2 : LL = List.replicate 32 0 := by rw [eL.out, e1, if_neg (by decide)]
    rw [e1, e2]
    refine ret_row_tmp rfl rfl (w.heap.size + 1 + 1) 23 _ (0, 0) _ _ rfl rfl R9.out Try.underlying23 rfl iZ.out ⟨rfl, ?_⟩
    exact hD.out.low.trans (U9.out.below (fun k hk e => by omega) hD.out.low.size)
  | true =>
    rw [hb] at eE
    rw [if_pos rfl] at eE
    go_wp2_with fail
    have hE := hD.out.call (Below.refl _ _).drew
    clear hD
    refine wp_region_held_drew (S := (fun w' => RowB w' w.heap.size 23 outer ∧ RowB w' (w.heap.size + 1) 51 SL)) (by kernel_rfl) (⟨hE.o, hE.s⟩) (fun hHeld => ?_)
    refine held_take (i := 0) (v := _) rfl (by kernel_rfl) (by kernel_rfl) (by kernel_rfl) (fun _ _ _ h => h) (yieldsIf_row (by rfl) rfl rfl Try.underlying23 iO (fun w' h => h.1)) (by assumption) ?_
    try simp only [Act.put, List.setIfInBounds_toArray, List.set_cons_zero, List.set_cons_succ]
    refine held_take (i := 1) (v := ?_) rfl (by kernel_rfl) (by kernel_rfl) (by kernel_rfl) (fun _ _ _ h => h) (Or.inl ⟨by rfl, ?_⟩) (by assumption) ?_
    rotate_left
    · intro w hSw; (try dsimp only at hSw); go_simp; try with_reducible rfl
    try simp only [Act.put, List.setIfInBounds_toArray, List.set_cons_zero, List.set_cons_succ]
    refine held_take (i := 2) (v := _) rfl (by kernel_rfl) (by kernel_rfl) (by kernel_rfl) (fun _ _ _ h => h) (yieldsIf_part (by rfl) rfl rfl salt Try.underlying22 iS (fun w' h => row_range h.2 p0.out (by rw [lS.out, hs.out]; decide))) (by assumption) ?_
    try simp only [Act.put, List.setIfInBounds_toArray, List.set_cons_zero, List.set_cons_succ]
    refine held_take (i := 4) (v := ?_) rfl (by kernel_rfl) (by kernel_rfl) (by kernel_rfl) (fun _ _ _ h => h) (Or.inl ⟨by rfl, ?_⟩) (by assumption) ?_
    rotate_left
    · intro w hSw; (try dsimp only at hSw); go_simp; try with_reducible rfl
    try simp only [Act.put, List.setIfInBounds_toArray, List.set_cons_zero, List.set_cons_succ]
    refine held_take (i := 5) (v := ?_) rfl (by kernel_rfl) (by kernel_rfl) (by kernel_rfl) (fun _ _ _ h => h) (Or.inl ⟨by rfl, ?_⟩) (by assumption) ?_
    rotate_left
    · intro w hSw; (try dsimp only at hSw); go_simp; try with_reducible rfl
    try simp only [Act.put, List.setIfInBounds_toArray, List.set_cons_zero, List.set_cons_succ]
    refine held_ready (i := 3) rfl (by kernel_rfl) (fun K hK => ?_)
    go_simp
    refine (cb2.out _).mono ?_
    rintro e w8 ⟨rfl, B8⟩
    have h8 := hE.call B8
    clear B8 hE
    replace h8 := Lib.hid h8
    refine hK.out _ _ (⟨h8.out.o, h8.out.s⟩) (fun hHeldN => ?_)
    clear hHeld hK K
    have hHeld := hHeldN
    clear hHeldN
    try simp only [Act.put, List.setIfInBounds_toArray, List.set_cons_zero, List.set_cons_succ]
    refine held_ready (i := 6) rfl (by kernel_rfl) (fun K hK => ?_)
    go_simp
    refine (cu.out w8 _ (row_part2 (o := 64) (n := 40) h8.out.s p2.out (by rw [lS.out]; decide) sS.out)).mono ?_
    rintro e w9 ⟨v9, rfl, t9, B9⟩
    have h9 := h8.out.call B9
    clear B9 h8
    replace h9 := Lib.hid h9
    replace t9 := Lib.hid t9
    refine hK.out _ _ (⟨h9.out.o, h9.out.s⟩) (fun hHeldN => ?_)
    clear hHeld hK K
    have hHeld := hHeldN
    clear hHeldN
    try simp only [Act.put, List.setIfInBounds_toArray, List.set_cons_zero, List.set_cons_succ]
    refine held_take (i := 7) (v := ?_) rfl (by kernel_rfl) (by kernel_rfl) (by kernel_rfl) (fun _ _ _ h => h) (Or.inl ⟨by rfl, ?_⟩) (by assumption) ?_
    rotate_left
    · intro w hSw; (try dsimp only at hSw); go_simp; try with_reducible rfl
    try simp only [Act.put, List.setIfInBounds_toArray, List.set_cons_zero, List.set_cons_succ]
    refine held_take (i := 8) (v := ?_) rfl (by kernel_rfl) (by kernel_rfl) (by kernel_rfl) (fun _ _ _ h => h) (Or.inl ⟨by rfl, ?_⟩) (by assumption) ?_
    rotate_left
    · intro w hSw; (try dsimp only at hSw); go_simp; try with_reducible rfl
    try simp only [Act.put, List.setIfInBounds_toArray, List.set_cons_zero, List.set_cons_succ]
    refine held_take (i := 9) (v := ?_) rfl (by kernel_rfl) (by kernel_rfl) (by kernel_rfl) (fun _ _ _ h => h) (Or.inl ⟨by rfl, ?_⟩) (by assumption) ?_
    rotate_left
    · intro w hSw; (try dsimp only at hSw); go_simp; try with_reducible rfl
    try simp only [Act.put, List.setIfInBounds_toArray, List.set_cons_zero, List.set_cons_succ]
    refine held_take (i := 10) (v := ?_) rfl (by kernel_rfl) (by kernel_rfl) (by kernel_rfl) (fun _ _ _ h => h) (Or.inl ⟨by rfl, ?_⟩) (by assumption) ?_
    rotate_left
    · intro w hSw; (try dsimp only at hSw); go_simp; try with_reducible rfl
    try simp only [Act.put, List.setIfInBounds_toArray, List.set_cons_zero, List.set_cons_succ]
    refine held_take (i := 11) (v := ?_) rfl (by kernel_rfl) (by kernel_rfl) (by kernel_rfl) (fun _ _ _ h => h) (Or.inl ⟨by rfl, ?_⟩) (by assumption) ?_
    rotate_left
    · intro w hSw; (try dsimp only at hSw); go_simp; try with_reducible rfl
    try simp only [Act.put, List.setIfInBounds_toArray, List.set_cons_zero, List.set_cons_succ]
    refine wpAnyH_done (by kernel_rfl) ?_ _
    clear hHeld
    by_cases hE : E = 0
    · subst hE
      rw [if_pos rfl] at eE t9
      obtain ⟨sb, so', c9, rfl, src⟩ := text_src t9.out (by rw [lU.out]; decide)
      rw [lU.out]
      have e2 : LL = UL := by rw [eL.out, eE.out, if_pos rfl]
      have th := row_there h9.out.m (o := 0) (n := UL.length) (by rw [lU.out]; simp)
      have rS := row_setCells (o := 0) (l := UL) h9.out.m (by rw [lU.out]; simp)
      have sp : putL2 (List.replicate 32 0) 0 UL = UL := by unfold putL2; rw [lU.out]; simp
      rw [sp] at rS
      have hU := upd_setCells (b := w.heap.size + 3) (u8l UL) 0 w9
      replace src := Lib.hid src
      replace th := Lib.hid th
      replace rS := Lib.hid rS
      replace hU := Lib.hid hU
      clear t9
      have z9 : RowB (w9.setCells (w.heap.size + 1 + 1 + 1) 0 (u8l UL)) (w.heap.size + 1 + 1) 23 (List.replicate 32 0) := h9.out.z.other (hU.out.block _ h9.out.z.lt (by omega))
      have hlo : Below w.heap.size w (w9.setCells (w.heap.size + 1 + 1 + 1) 0 (u8l UL)) := h9.out.low.trans (hU.out.below (fun k hk e => by omega) h9.out.low.size)
      have zU : (u8s (List.replicate 32 0)).size = (u8s UL).size := by rw [size_u8s, size_u8s, lU.out]; simp
      replace z9 := Lib.hid z9
      replace hlo := Lib.hid hlo
      replace zU := Lib.hid zU
      replace e2 := Lib.hid e2
      go_wp2_with (first
        | refine wpList_copy_cells (by rfl) (.tmp 33) (.tmp 34) 25 25 rfl 5 Try.underlying25 infoU8s (w.heap.size + 1 + 1 + 1) 0 32 32 32 c9 sb so' rfl rfl UL (by rw [lU.out]; decide) src.out th.out ?_
        | refine wpList_load_b (by rfl) 23 (.tmp 6) rfl (w.heap.size + 1 + 1 + 1) rfl 23 UL rS.out _ Try.underlying23 rfl iU.out ?_
        | (refine wpList_store_s (by rfl) 23 (.tmp 4) (.tmp 36) rfl (w.heap.size + 1 + 1) UL rfl rfl 23 _ z9.out iU.out zU.out ?_; intro wa Ra Ua))
      rw [eE.out, e2.out]
      refine ret_row_tmp rfl rfl (w.heap.size + 1 + 1) 23 _ (0, 0) _ _ rfl rfl Ra.out Try.underlying23 rfl iU.out ⟨rfl, ?_⟩
      exact hlo.out.trans (Ua.out.below (fun k hk e => by omega) hlo.out.size)
    · rw [if_neg hE] at eE
      have hE' : decide (E = 0) = false := decide_eq_false hE
      go_wp2_with (first
        | refine wpList_load_b (by rfl) 23 (.tmp 6) rfl (w.heap.size + 1 + 1 + 1) rfl 23 (List.replicate 32 0) h9.out.m _ Try.underlying23 rfl iZ.out ?_
        | (refine wpList_store_s (by rfl) 23 (.tmp 4) (.tmp 32) rfl (w.heap.size + 1 + 1) (List.replicate 32 0) rfl rfl 23 _ h9.out.z iZ.out rfl ?_; intro wa Ra Ua))
      have e1 : EE = 40 := eE.out
      have e2 : LL = List.replicate 32 0 := by rw [eL.out, e1, if_neg (by decide)]
      rw [e1, e2]
      refine ret_row_tmp rfl rfl (w.heap.size + 1 + 1) 23 _ (0, 0) _ _ rfl rfl Ra.out Try.underlying23 rfl iZ.out ⟨rfl, ?_⟩
      exact h9.out.low.trans (Ua.out.below (fun k hk e => by omega) h9.out.low.size)
end Go.Proofs.Ytecmagenlbnchaa
namespace Go.Proofs.Ytecmagenlbnchaa
set_option maxRecDepth 100000
open Go.RowKit

/-- A volume's words. -/
def vol1 (m : List Nat) (n : Nat) : Nat → Nat := byt (wordsOf (byt (volK m nmOne n)))
def vol2 (m : List Nat) (n : Nat) : Nat → Nat := byt (wordsOf (byt (volK m nmTwo n)))
theorem vol1_lt (m : List Nat) (n : Nat) : ∀ i, vol1 m n i < 256 := words_lt (byt_lt (volK_small m nmOne n)) 60
theorem vol2_lt (m : List Nat) (n : Nat) : ∀ i, vol2 m n i < 256 := words_lt (byt_lt (volK_small m nmTwo n)) 60
/-- What Seal's and Open's error is. -/
def slE (n : Nat) : Int := if n = 512 then 0 else 3
/-- What comes. -/
def slturnL (m : List Nat) (n s : Nat) (l : List Nat) : List Nat := bytesOf (sec (turnF (vol1 m n)) (turnF (vol2 m n) (twk s)) (byt l)) 512
def slturnT (m : List Nat) (n s : Nat) (l : List Nat) : List Nat := if l.length = 512 then slturnL m n s l else []
theorem slturnL_length (m : List Nat) (n s : Nat) (l : List Nat) : (slturnL m n s l).length = 512 := length_bytesOf _ _
theorem slturnL_small {m : List Nat} {n s : Nat} {l : List Nat} (h : ∀ x ∈ l, x < 256) : ∀ x ∈ slturnL m n s l, x < 256 := bytesOf_lt fun i _ => sec_lt (fun _ hx => bytes_turn (vol1_lt m n) hx) (bytes_turn (vol2_lt m n) (twk_lt s)) (byt_lt h) i
set_option maxHeartbeats 4000000 in
set_option maxRecDepth 100000 in
theorem stturn_ok (w : World) (m : List Nat) (n s : Nat) (lm : m.length = 32) (sm : ∀ x ∈ m, x < 256) (hn : n < 18446744073709551616) (ao : Option Addr) (l : List Nat) (cap : Nat) (el : l.length = 512) (hl : TextAt w (.slice ao 512 cap) l) :
    Calls Try.prog 35 #[.func (.func 36) #[] #[], .agg (u8s m), .int .u64 (n : Int), .int .u64 (s : Int), .slice ao 512 cap] w fun e w' => ∃ v, e = .returned (.tuple #[v, .int .i64 0]) ∧ TextAt w' v (slturnL m n s l) ∧ Below w.heap.size w w' := by
  have r0 : RowB (w.alloc (.cells (u8s m) 23)) w.heap.size 23 m := heap_alloc_new _ _
  have b0 : Below w.heap.size w (w.alloc (.cells (u8s m) 23)) := (Below.refl _ _).alloc (Nat.le_refl _) _
  have cv := Lib.hid (fun wx => volume_any wx m n lm sm hn)
  have cn := Lib.hid (fun wx => xnew_any wx (volK m nmOne n) (volK m nmTwo n) (volK_length _ _ _) (volK_small _ _ _) (volK_length _ _ _) (volK_small _ _ _))
  have cx := Lib.hid (fun wx b (h : XtsAt wx b (vol1 m n) (vol2 m n)) (ht : TextAt wx (.slice ao 512 cap) l) => xturn_ok wx b (vol1 m n) (vol2 m n) h (vol1_lt m n) (vol2_lt m n) (twk s) (twk_lt s) ao l 512 cap el ht rfl)
  have ct := Lib.hid (fun wx => xtweak_any s wx)
  have sO := Lib.hid (fun h => slturnL_small (m := m) (n := n) (s := s) (l := l) h)
  have eO : bytesOf (sec (turnF (vol1 m n)) (turnF (vol2 m n) (twk s)) (byt l)) 512 = slturnL m n s l := rfl
  rw [eO] at cx
  have l1 := volK_length m nmOne n
  have l2 := volK_length m nmTwo n
  clear eO
  have iM := infoKey lm
  have i1 := infoKey l1
  have i2 := infoKey l2
  have z1 : (u8s (List.replicate 32 0)).size = (u8s (volK m nmOne n)).size := by rw [size_u8s, size_u8s, l1]; simp
  have z2 : (u8s (List.replicate 32 0)).size = (u8s (volK m nmTwo n)).size := by rw [size_u8s, size_u8s, l2]; simp
  have e1 : byt (wordsOf (byt (volK m nmOne n))) = vol1 m n := rfl
  have e2 : byt (wordsOf (byt (volK m nmTwo n))) = vol2 m n := rfl
  rw [e1, e2] at cn
  clear e1 e2
  generalize vol1 m n = V at *
  generalize vol2 m n = W at *
  generalize slturnL m n s l = O at *
  generalize volK m nmOne n = K1 at *
  generalize volK m nmTwo n = K2 at *
  replace r0 := Lib.hid r0
  replace b0 := Lib.hid b0
  replace el := Lib.hid el
  replace hl := Lib.hid hl
  replace lm := Lib.hid lm
  replace sm := Lib.hid sm
  replace iM := Lib.hid iM
  replace i1 := Lib.hid i1
  replace i2 := Lib.hid i2
  replace z1 := Lib.hid z1
  replace z2 := Lib.hid z2
  replace l1 := Lib.hid l1
  replace l2 := Lib.hid l2
  go_enter Try.func35, Try.ntmps35
  go_wp2_with (first
    | refine wpList_load_b (by rfl) 23 (.tmp 6) rfl w.heap.size rfl 23 m r0.out _ Try.underlying23 rfl iM.out ?_)
  refine (cv.out _).mono ?_
  rintro e w1 ⟨rfl, B1⟩
  clear cv
  have L1 := b0.out.trans (B1.mono b0.out.size)
  have bz : Below w1.heap.size w1 ((w1.alloc (.cells (u8s (List.replicate 32 0)) 23)).alloc (.cells (u8s (List.replicate 32 0)) 23)) := ((Below.refl _ _).alloc (Nat.le_refl _) _).alloc (by simp) _
  have r15 : RowB ((w1.alloc (.cells (u8s (List.replicate 32 0)) 23)).alloc (.cells (u8s (List.replicate 32 0)) 23)) w1.heap.size 23 (List.replicate 32 0) := RowB.alloc (heap_alloc_new _ _) _
  have r16 : RowB ((w1.alloc (.cells (u8s (List.replicate 32 0)) 23)).alloc (.cells (u8s (List.replicate 32 0)) 23)) (w1.heap.size + 1) 23 (List.replicate 32 0) := by
    rw [show w1.heap.size + 1 = (w1.alloc (.cells (u8s (List.replicate 32 0)) 23)).heap.size by simp]; exact heap_alloc_new _ _
  replace L1 := Lib.hid L1
  replace bz := Lib.hid bz
  replace r15 := Lib.hid r15
  replace r16 := Lib.hid r16
  clear B1
  go_wp2_with (first
    | (refine wpList_store_s (by rfl) 23 (.tmp 12) (.tmp 21) rfl w1.heap.size K1 rfl rfl 23 _ r15.out i1.out z1.out ?_; intro w2 R2 U2
       have b2 := Lib.hid (bz.out.trans (U2.out.below (fun k hk e => by omega) bz.out.size))
       have s16 := Lib.hid (r16.out.other (U2.out.block _ r16.out.lt (by omega))))
    | (refine wpList_store_s (by rfl) 23 (.tmp 13) (.tmp 22) rfl (w1.heap.size + 1) K2 rfl rfl 23 _ s16.out i2.out z2.out ?_; intro w3 R3 U3
       have b3 := Lib.hid (b2.out.trans (U3.out.below (fun k hk e => by omega) b2.out.size))
       have R2' := Lib.hid (R2.out.other (U3.out.block _ R2.out.lt (by omega))))
    | refine wpList_load_b (by rfl) 23 (.tmp 12) rfl w1.heap.size rfl 23 K1 R2'.out _ Try.underlying23 rfl i1.out ?_
    | refine wpList_load_b (by rfl) 23 (.tmp 13) rfl (w1.heap.size + 1) rfl 23 K2 R3.out _ Try.underlying23 rfl i2.out ?_)
  have L3 := L1.out.trans (b3.out.mono L1.out.size)
  replace L3 := Lib.hid L3
  clear U2 U3 b2 b3 s16 r15 r16 R2 R2' R3 bz
  refine (cn.out _).mono ?_
  rintro e w4 ⟨b, rfl, hb, X4, B4⟩
  have L4 := L3.out.trans (B4.mono L3.out.size)
  clear cn B4
  replace L4 := Lib.hid L4
  replace X4 := Lib.hid X4
  replace hb := Lib.hid hb
  go_wp2_with fail
  refine (ct.out _).mono ?_
  rintro e w5 ⟨rfl, B5⟩
  have L5 := L4.out.trans (B5.mono L4.out.size)
  have X5 := X4.out.below B5
  clear ct B5 X4 L4
  replace L5 := Lib.hid L5
  replace X5 := Lib.hid X5
  go_wp2_with fail
  refine (cx.out _ _ X5.out (hl.out.below L5.out)).mono ?_
  rintro e w6 ⟨v, rfl, O6, B6⟩
  have L6 := L5.out.trans (B6.mono L5.out.size)
  have T6 := O6.text (sO.out hl.out.small)
  clear cx B6 O6 X5
  replace L6 := Lib.hid L6
  replace T6 := Lib.hid T6
  go_wp2_with fail
  go_ret2
  exact ⟨_, rfl, T6.out, L6.out⟩
set_option maxRecDepth 100000 in
theorem stturn_bad (w : World) (m : List Nat) (n s : Int) (ao : Option Addr) (k cap : Nat) (hk : k ≠ 512) :
    Calls Try.prog 35 #[.func (.func 36) #[] #[], .agg (u8s m), .int .u64 n, .int .u64 s, .slice ao k cap] w fun e w' => e = .returned (.tuple #[.slice none 0 0, .int .i64 3]) ∧ Below w.heap.size w w' := by
  have d : ((k : Int) == 512) = false := beq_eq_false_iff_ne.2 (by omega)
  have b0 : Below w.heap.size w (w.alloc (.cells (u8s m) 23)) := (Below.refl _ _).alloc (Nat.le_refl _) _
  replace b0 := Lib.hid b0
  go_enter Try.func35, Try.ntmps35
  go_wp2_with fail
  go_ret2
  exact ⟨rfl, b0.out⟩
set_option maxRecDepth 100000 in
theorem sealturn_any (w : World) (m : List Nat) (n s : Nat) (lm : m.length = 32) (sm : ∀ x ∈ m, x < 256) (hn : n < 18446744073709551616) (v : Value) (l : List Nat) (hl : TextAt w v l) :
    Calls Try.prog 14 #[.agg (u8s m), .int .u64 (n : Int), .int .u64 (s : Int), v] w fun e w' => ∃ x, e = .returned (.tuple #[x, .int .i64 (slE l.length)]) ∧ TextAt w' x (slturnT m n s l) ∧ Below w.heap.size w w' := by
  obtain ⟨ao, cap, rfl, _⟩ := hl.ex
  have r0 : RowB (w.alloc (.cells (u8s m) 23)) w.heap.size 23 m := heap_alloc_new _ _
  have b0 : Below w.heap.size w (w.alloc (.cells (u8s m) 23)) := (Below.refl _ _).alloc (Nat.le_refl _) _
  have iM := infoKey lm
  have cc : ∀ wx, TextAt wx (.slice ao l.length cap) l → Calls Try.prog 35 #[.func (.func 36) #[] #[], .agg (u8s m), .int .u64 (n : Int), .int .u64 (s : Int), .slice ao l.length cap] wx fun e w' => ∃ x, e = .returned (.tuple #[x, .int .i64 (slE l.length)]) ∧ TextAt w' x (slturnT m n s l) ∧ Below wx.heap.size wx w' := fun wx ht => by
    unfold slE slturnT
    by_cases h : l.length = 512
    · rw [if_pos h, if_pos h]
      rw [h] at ht ⊢
      exact stturn_ok wx m n s lm sm hn ao l cap h ht
    · rw [if_neg h, if_neg h]
      exact (stturn_bad wx m n s ao l.length cap h).mono fun e w' ⟨h1, h2⟩ => ⟨_, h1, TextAt.nil _, h2⟩
  generalize slturnT m n s l = T at *
  generalize slE l.length = E at *
  replace r0 := Lib.hid r0
  replace b0 := Lib.hid b0
  replace iM := Lib.hid iM
  replace cc := Lib.hid cc
  replace hl := Lib.hid hl
  replace lm := Lib.hid lm
  replace sm := Lib.hid sm
  go_enter Try.func14, Try.ntmps14
  go_wp2_with (first
    | refine wpList_load_b (by rfl) 23 (.tmp 4) rfl w.heap.size rfl 23 m r0.out _ Try.underlying23 rfl iM.out ?_)
  refine (cc.out _ (hl.out.below b0.out)).mono ?_
  rintro e w1 ⟨x, rfl, T1, B1⟩
  have L1 := b0.out.trans (B1.mono b0.out.size)
  clear B1 cc
  replace T1 := Lib.hid T1
  replace L1 := Lib.hid L1
  go_wp2_with fail
  go_ret2
  exact ⟨_, rfl, T1.out, L1.out⟩
/-- What comes. -/
def slbackL (m : List Nat) (n s : Nat) (l : List Nat) : List Nat := bytesOf (sec (backF (vol1 m n)) (turnF (vol2 m n) (twk s)) (byt l)) 512
def slbackT (m : List Nat) (n s : Nat) (l : List Nat) : List Nat := if l.length = 512 then slbackL m n s l else []
theorem slbackL_length (m : List Nat) (n s : Nat) (l : List Nat) : (slbackL m n s l).length = 512 := length_bytesOf _ _
theorem slbackL_small {m : List Nat} {n s : Nat} {l : List Nat} (h : ∀ x ∈ l, x < 256) : ∀ x ∈ slbackL m n s l, x < 256 := bytesOf_lt fun i _ => sec_lt (fun _ hx => bytes_back (vol1_lt m n) hx) (bytes_turn (vol2_lt m n) (twk_lt s)) (byt_lt h) i
set_option maxHeartbeats 4000000 in
set_option maxRecDepth 100000 in
theorem stback_ok (w : World) (m : List Nat) (n s : Nat) (lm : m.length = 32) (sm : ∀ x ∈ m, x < 256) (hn : n < 18446744073709551616) (ao : Option Addr) (l : List Nat) (cap : Nat) (el : l.length = 512) (hl : TextAt w (.slice ao 512 cap) l) :
    Calls Try.prog 35 #[.func (.func 40) #[] #[], .agg (u8s m), .int .u64 (n : Int), .int .u64 (s : Int), .slice ao 512 cap] w fun e w' => ∃ v, e = .returned (.tuple #[v, .int .i64 0]) ∧ TextAt w' v (slbackL m n s l) ∧ Below w.heap.size w w' := by
  have r0 : RowB (w.alloc (.cells (u8s m) 23)) w.heap.size 23 m := heap_alloc_new _ _
  have b0 : Below w.heap.size w (w.alloc (.cells (u8s m) 23)) := (Below.refl _ _).alloc (Nat.le_refl _) _
  have cv := Lib.hid (fun wx => volume_any wx m n lm sm hn)
  have cn := Lib.hid (fun wx => xnew_any wx (volK m nmOne n) (volK m nmTwo n) (volK_length _ _ _) (volK_small _ _ _) (volK_length _ _ _) (volK_small _ _ _))
  have cx := Lib.hid (fun wx b (h : XtsAt wx b (vol1 m n) (vol2 m n)) (ht : TextAt wx (.slice ao 512 cap) l) => xback_ok wx b (vol1 m n) (vol2 m n) h (vol1_lt m n) (vol2_lt m n) (twk s) (twk_lt s) ao l 512 cap el ht rfl)
  have ct := Lib.hid (fun wx => xtweak_any s wx)
  have sO := Lib.hid (fun h => slbackL_small (m := m) (n := n) (s := s) (l := l) h)
  have eO : bytesOf (sec (backF (vol1 m n)) (turnF (vol2 m n) (twk s)) (byt l)) 512 = slbackL m n s l := rfl
  rw [eO] at cx
  have l1 := volK_length m nmOne n
  have l2 := volK_length m nmTwo n
  clear eO
  have iM := infoKey lm
  have i1 := infoKey l1
  have i2 := infoKey l2
  have z1 : (u8s (List.replicate 32 0)).size = (u8s (volK m nmOne n)).size := by rw [size_u8s, size_u8s, l1]; simp
  have z2 : (u8s (List.replicate 32 0)).size = (u8s (volK m nmTwo n)).size := by rw [size_u8s, size_u8s, l2]; simp
  have e1 : byt (wordsOf (byt (volK m nmOne n))) = vol1 m n := rfl
  have e2 : byt (wordsOf (byt (volK m nmTwo n))) = vol2 m n := rfl
  rw [e1, e2] at cn
  clear e1 e2
  generalize vol1 m n = V at *
  generalize vol2 m n = W at *
  generalize slbackL m n s l = O at *
  generalize volK m nmOne n = K1 at *
  generalize volK m nmTwo n = K2 at *
  replace r0 := Lib.hid r0
  replace b0 := Lib.hid b0
  replace el := Lib.hid el
  replace hl := Lib.hid hl
  replace lm := Lib.hid lm
  replace sm := Lib.hid sm
  replace iM := Lib.hid iM
  replace i1 := Lib.hid i1
  replace i2 := Lib.hid i2
  replace z1 := Lib.hid z1
  replace z2 := Lib.hid z2
  replace l1 := Lib.hid l1
  replace l2 := Lib.hid l2
  go_enter Try.func35, Try.ntmps35
  go_wp2_with (first
    | refine wpList_load_b (by rfl) 23 (.tmp 6) rfl w.heap.size rfl 23 m r0.out _ Try.underlying23 rfl iM.out ?_)
  refine (cv.out _).mono ?_
  rintro e w1 ⟨rfl, B1⟩
  clear cv
  have L1 := b0.out.trans (B1.mono b0.out.size)
  have bz : Below w1.heap.size w1 ((w1.alloc (.cells (u8s (List.replicate 32 0)) 23)).alloc (.cells (u8s (List.replicate 32 0)) 23)) := ((Below.refl _ _).alloc (Nat.le_refl _) _).alloc (by simp) _
  have r15 : RowB ((w1.alloc (.cells (u8s (List.replicate 32 0)) 23)).alloc (.cells (u8s (List.replicate 32 0)) 23)) w1.heap.size 23 (List.replicate 32 0) := RowB.alloc (heap_alloc_new _ _) _
  have r16 : RowB ((w1.alloc (.cells (u8s (List.replicate 32 0)) 23)).alloc (.cells (u8s (List.replicate 32 0)) 23)) (w1.heap.size + 1) 23 (List.replicate 32 0) := by
    rw [show w1.heap.size + 1 = (w1.alloc (.cells (u8s (List.replicate 32 0)) 23)).heap.size by simp]; exact heap_alloc_new _ _
  replace L1 := Lib.hid L1
  replace bz := Lib.hid bz
  replace r15 := Lib.hid r15
  replace r16 := Lib.hid r16
  clear B1
  go_wp2_with (first
    | (refine wpList_store_s (by rfl) 23 (.tmp 12) (.tmp 21) rfl w1.heap.size K1 rfl rfl 23 _ r15.out i1.out z1.out ?_; intro w2 R2 U2
       have b2 := Lib.hid (bz.out.trans (U2.out.below (fun k hk e => by omega) bz.out.size))
       have s16 := Lib.hid (r16.out.other (U2.out.block _ r16.out.lt (by omega))))
    | (refine wpList_store_s (by rfl) 23 (.tmp 13) (.tmp 22) rfl (w1.heap.size + 1) K2 rfl rfl 23 _ s16.out i2.out z2.out ?_; intro w3 R3 U3
       have b3 := Lib.hid (b2.out.trans (U3.out.below (fun k hk e => by omega) b2.out.size))
       have R2' := Lib.hid (R2.out.other (U3.out.block _ R2.out.lt (by omega))))
    | refine wpList_load_b (by rfl) 23 (.tmp 12) rfl w1.heap.size rfl 23 K1 R2'.out _ Try.underlying23 rfl i1.out ?_
    | refine wpList_load_b (by rfl) 23 (.tmp 13) rfl (w1.heap.size + 1) rfl 23 K2 R3.out _ Try.underlying23 rfl i2.out ?_)
  have L3 := L1.out.trans (b3.out.mono L1.out.size)
  replace L3 := Lib.hid L3
  clear U2 U3 b2 b3 s16 r15 r16 R2 R2' R3 bz
  refine (cn.out _).mono ?_
  rintro e w4 ⟨b, rfl, hb, X4, B4⟩
  have L4 := L3.out.trans (B4.mono L3.out.size)
  clear cn B4
  replace L4 := Lib.hid L4
  replace X4 := Lib.hid X4
  replace hb := Lib.hid hb
  go_wp2_with fail
  refine (ct.out _).mono ?_
  rintro e w5 ⟨rfl, B5⟩
  have L5 := L4.out.trans (B5.mono L4.out.size)
  have X5 := X4.out.below B5
  clear ct B5 X4 L4
  replace L5 := Lib.hid L5
  replace X5 := Lib.hid X5
  go_wp2_with fail
  refine (cx.out _ _ X5.out (hl.out.below L5.out)).mono ?_
  rintro e w6 ⟨v, rfl, O6, B6⟩
  have L6 := L5.out.trans (B6.mono L5.out.size)
  have T6 := O6.text (sO.out hl.out.small)
  clear cx B6 O6 X5
  replace L6 := Lib.hid L6
  replace T6 := Lib.hid T6
  go_wp2_with fail
  go_ret2
  exact ⟨_, rfl, T6.out, L6.out⟩
set_option maxRecDepth 100000 in
theorem stback_bad (w : World) (m : List Nat) (n s : Int) (ao : Option Addr) (k cap : Nat) (hk : k ≠ 512) :
    Calls Try.prog 35 #[.func (.func 40) #[] #[], .agg (u8s m), .int .u64 n, .int .u64 s, .slice ao k cap] w fun e w' => e = .returned (.tuple #[.slice none 0 0, .int .i64 3]) ∧ Below w.heap.size w w' := by
  have d : ((k : Int) == 512) = false := beq_eq_false_iff_ne.2 (by omega)
  have b0 : Below w.heap.size w (w.alloc (.cells (u8s m) 23)) := (Below.refl _ _).alloc (Nat.le_refl _) _
  replace b0 := Lib.hid b0
  go_enter Try.func35, Try.ntmps35
  go_wp2_with fail
  go_ret2
  exact ⟨rfl, b0.out⟩
set_option maxRecDepth 100000 in
theorem sealback_any (w : World) (m : List Nat) (n s : Nat) (lm : m.length = 32) (sm : ∀ x ∈ m, x < 256) (hn : n < 18446744073709551616) (v : Value) (l : List Nat) (hl : TextAt w v l) :
    Calls Try.prog 16 #[.agg (u8s m), .int .u64 (n : Int), .int .u64 (s : Int), v] w fun e w' => ∃ x, e = .returned (.tuple #[x, .int .i64 (slE l.length)]) ∧ TextAt w' x (slbackT m n s l) ∧ Below w.heap.size w w' := by
  obtain ⟨ao, cap, rfl, _⟩ := hl.ex
  have r0 : RowB (w.alloc (.cells (u8s m) 23)) w.heap.size 23 m := heap_alloc_new _ _
  have b0 : Below w.heap.size w (w.alloc (.cells (u8s m) 23)) := (Below.refl _ _).alloc (Nat.le_refl _) _
  have iM := infoKey lm
  have cc : ∀ wx, TextAt wx (.slice ao l.length cap) l → Calls Try.prog 35 #[.func (.func 40) #[] #[], .agg (u8s m), .int .u64 (n : Int), .int .u64 (s : Int), .slice ao l.length cap] wx fun e w' => ∃ x, e = .returned (.tuple #[x, .int .i64 (slE l.length)]) ∧ TextAt w' x (slbackT m n s l) ∧ Below wx.heap.size wx w' := fun wx ht => by
    unfold slE slbackT
    by_cases h : l.length = 512
    · rw [if_pos h, if_pos h]
      rw [h] at ht ⊢
      exact stback_ok wx m n s lm sm hn ao l cap h ht
    · rw [if_neg h, if_neg h]
      exact (stback_bad wx m n s ao l.length cap h).mono fun e w' ⟨h1, h2⟩ => ⟨_, h1, TextAt.nil _, h2⟩
  generalize slbackT m n s l = T at *
  generalize slE l.length = E at *
  replace r0 := Lib.hid r0
  replace b0 := Lib.hid b0
  replace iM := Lib.hid iM
  replace cc := Lib.hid cc
  replace hl := Lib.hid hl
  replace lm := Lib.hid lm
  replace sm := Lib.hid sm
  go_enter Try.func16, Try.ntmps16
  go_wp2_with (first
    | refine wpList_load_b (by rfl) 23 (.tmp 4) rfl w.heap.size rfl 23 m r0.out _ Try.underlying23 rfl iM.out ?_)
  refine (cc.out _ (hl.out.below b0.out)).mono ?_
  rintro e w1 ⟨x, rfl, T1, B1⟩
  have L1 := b0.out.trans (B1.mono b0.out.size)
  clear B1 cc
  replace T1 := Lib.hid T1
  replace L1 := Lib.hid L1
  go_wp2_with fail
  go_ret2
  exact ⟨_, rfl, T1.out, L1.out⟩
end Go.Proofs.Ytecmagenlbnchaa
namespace Go.Proofs.Ytecmagenlbnchaa
set_option maxRecDepth 100000
open Go.RowKit

/-- 'copy' of a text to a row's beginning. -/
theorem wpList_copy_text {P : Program} {w : World} {ops : Array Oper} {rest : List Oper} {o : Oper} {a : Act} {Q : Exit → Act → World → Prop} (hgd : o.guard = none) (d s : Operand) (dT sT : TypeId)
    (ho : o.op = .call { callee := .builtin .copy, args := #[d, s], argTypes := #[dT, sT] }) (elem : TypeId) (hu : P.underlying dT = some (.slice elem)) (hsz : (P.info? elem).map (·.size) = some 1)
    (g dLen dCap : Nat) (v : Value) (t : List Nat) (hd : a.eval d = .slice (some ⟨g, 0, none⟩) dLen dCap) (hs : a.eval s = v) (ht : TextAt w v t) (ty : TypeId) (L : List Nat) (hR : RowB w g ty L) (hL : L.length = dLen) (hle : t.length ≤ dLen)
    (h : ∀ w', Hid (RowB w' g ty (t ++ L.drop t.length)) → Hid (Upd (fun i => i = g) w w') → wpList P ops Q rest (a.put o.dst (.int .i64 (t.length : Int))) w') : wpList P ops Q (o :: rest) a w := by
  obtain ⟨ao, cap, rfl, h1, h2, h3⟩ := ht.ex
  cases ao with
  | none =>
    have h0 : t.length = 0 := by have := h2 rfl; omega
    obtain rfl : t = [] := List.eq_nil_of_length_eq_zero h0
    refine wpList_copy_nothing hgd d s dT sT ho elem hu hsz _ _ dLen dCap _ cap hd hs (Nat.min_eq_left (by simp)) ?_
    exact h w (Lib.hid hR) (Lib.hid (Upd.refl _ _))
  | some ad =>
    have hlen : (u8l t).length = t.length := by simp [u8l]
    refine wpList_copy_row hgd d s dT sT ho elem hu hsz g 0 dLen dCap ad t.length cap hd hs (u8s L) ty hR (u8l t) (by rw [hlen]; exact (Nat.min_eq_left hle).symm) (fun j u hj => ?_) (by rw [hlen, size_u8s]; omega) (u8l_one t) (u8s (t ++ L.drop t.length)) ?_ ?_
    · obtain ⟨ad', e, hc⟩ := h3.news j u hj
      cases e; exact hc
    · rw [hlen]
      apply Array.ext'
      simp [u8s, u8l]
    · intro w' hw'
      rw [show goInt (u8l t).length = Value.int .i64 (t.length : Int) by rw [hlen]; rfl]
      have e := hw'.out
      subst e
      exact h _ (Lib.hid (setRow_heap w g _ _ _ _ hR)) (Lib.hid ((Upd.refl _ w).setRow g _ (fun _ => rfl)))
/-- A block of 512 bytes. -/
def blockL (t : List Nat) : List Nat := t ++ (List.replicate 512 0).drop t.length
theorem blockL_length {t : List Nat} (h : t.length ≤ 512) : (blockL t).length = 512 := by unfold blockL; simp; omega
theorem blockL_small {t : List Nat} (h : ∀ x ∈ t, x < 256) : ∀ x ∈ blockL t, x < 256 := by
  intro x hx
  rcases List.mem_append.1 hx with hx | hx
  · exact h x hx
  · have := List.mem_of_mem_drop hx
    have := (List.mem_replicate.1 this).2
    omega
set_option maxRecDepth 100000 in
theorem block_any (w : World) (v : Value) (t : List Nat) (ht : TextAt w v t) (hl : t.length ≤ 512) :
    Calls Try.prog 17 #[v] w fun e w' => ∃ g, e = .returned (.slice (some ⟨g, 0, none⟩) 512 512) ∧ RowB w' g 5 (blockL t) ∧ w.heap.size ≤ g ∧ Below w.heap.size w w' := by
  have hm := run_make_u8 512 512 (Nat.le_refl _) (by decide)
  rw [show ((512 : Nat) : Int) = 512 from rfl] at hm
  have r0 : RowB (w.alloc (.cells (u8s (List.replicate 512 0)) 5)) w.heap.size 5 (List.replicate 512 0) := heap_alloc_new _ _
  have b0 : Below w.heap.size w (w.alloc (.cells (u8s (List.replicate 512 0)) 5)) := (Below.refl _ _).alloc (Nat.le_refl _) _
  have t0 := ht.below b0
  replace r0 := Lib.hid r0
  replace b0 := Lib.hid b0
  replace t0 := Lib.hid t0
  replace hl := Lib.hid hl
  replace ht := Lib.hid ht
  go_enter Try.func17, Try.ntmps17
  go_wp2_with (refine wpList_copy_text (by rfl) (.tmp 5) (.tmp 6) 25 25 rfl 5 Try.underlying25 infoU8s w.heap.size 512 512 v t rfl rfl t0.out 5 (List.replicate 512 0) r0.out (by simp) hl.out ?_; intro w1 R1 U1)
  go_ret
  exact ⟨_, rfl, R1.out, Nat.le_refl _, b0.out.trans (U1.out.below (fun k hk e => by omega) b0.out.size)⟩
end Go.Proofs.Ytecmagenlbnchaa
namespace Go.Proofs.Ytecmagenlbnchaa
set_option maxRecDepth 100000
open Go.RowKit

theorem slback_turn (m : List Nat) (n s : Nat) {l : List Nat} (h : l.length = 512) (hs : ∀ x ∈ l, x < 256) : slbackL m n s (slturnL m n s l) = l := by
  have e := sec_back (m := turnF (vol2 m n) (twk s)) (l := l) (fun x hx => back_turn (vol1_lt m n) hx) (fun x y h => same_back h) (bytes_turn (vol2_lt m n) (twk_lt s)) (by rw [h]) hs
  rw [h] at e
  exact e
theorem slturn_back (m : List Nat) (n s : Nat) {l : List Nat} (h : l.length = 512) (hs : ∀ x ∈ l, x < 256) : slturnL m n s (slbackL m n s l) = l := by
  have e := sec_back (m := turnF (vol2 m n) (twk s)) (l := l) (fun x hx => turn_back (vol1_lt m n) hx) (fun x y h => same_turn h) (bytes_turn (vol2_lt m n) (twk_lt s)) (by rw [h]) hs
  rw [h] at e
  exact e
theorem alive_apart : (slturnL (key1 1) 2 3 (blockL [120]) == blockL [120]) = false := by
  rw [beq_eq_false_iff_ne]
  intro h
  have h0 : byt (slturnL (key1 1) 2 3 (blockL [120])) 0 = byt (blockL [120]) 0 := by rw [h]
  have e0 : byt (blockL [120]) 0 = 120 := by decide +kernel
  rw [e0] at h0
  unfold slturnL at h0
  rw [byt_bytesOf _ (by decide)] at h0
  exact svec (z := byt (blockL [120])) (fun i hi => by
    by_cases h : i = 0
    · subst h; exact e0
    · rw [if_neg h]
      unfold blockL
      rw [byt_append, if_neg (by simp; omega)]
      simp only [byt, List.getD, List.getElem?_drop, List.getElem?_replicate]
      split <;> rfl) h0
/-- The text 'x' in a row just laid and marked. -/
theorem mark_text (w : World) : TextAt (w.alloc (.cells #[.int .u8 120] 5 (1, 2))) (.slice (some ⟨w.heap.size, 0, none⟩) 1 1) [120] :=
  ⟨_, 1, rfl, Nat.le_refl _, fun e => by simp at e, fun i hi => by
    have h0 : i = 0 := by simp at hi; omega
    subst h0
    exact ⟨by decide, w.heap.size, 0, rfl, (cell_of_row _ _ 0 _ _ _ (heap_alloc_new _ _)).trans rfl⟩⟩
set_option maxHeartbeats 4000000 in
set_option maxRecDepth 100000 in
theorem alive22_of (w : World) (k P A : List Nat) (lk : k.length = 32) (sk : ∀ x ∈ k, x < 256) (bk : Try.prog.built 23 [(0, .int .u8 1)] = some (u8s k)) (eP : blockL [120] = P) (lP : P.length = 512) (sP : ∀ x ∈ P, x < 256) (eA : slturnL k 2 3 P = A) (ne : (A == P) = false) :
    Calls Try.prog 13 #[] w fun e w' => e = .returned (.bool true) ∧ Below w.heap.size w w' := by
  have lA : A.length = 512 := by rw [← eA]; exact slturnL_length _ _ _ _
  have sA : ∀ x ∈ A, x < 256 := by rw [← eA]; exact slturnL_small sP
  have cb := Lib.hid (fun wx v h => block_any wx v [120] h (by decide))
  rw [eP] at cb
  have c1 := fun wx v (h : TextAt wx v P) => sealturn_any wx k 2 3 lk sk (by decide) v P h
  have c2 := fun wx v (h : TextAt wx v A) => sealback_any wx k 2 3 lk sk (by decide) v A h
  have c3 := fun wx v (h : TextAt wx v (List.replicate 511 0)) => sealturn_any wx k 2 3 lk sk (by decide) v (List.replicate 511 0) h
  have t1 : slturnT k 2 3 P = A := by unfold slturnT; rw [if_pos lP, eA]
  have t2 : slbackT k 2 3 A = P := by unfold slbackT; rw [if_pos lA, ← eA, slback_turn k 2 3 lP sP]
  have t3 : slE 512 = 0 := rfl
  have t4 : slE 511 = 3 := rfl
  rw [t1, lP, t3] at c1
  rw [t2, lA, t3] at c2
  rw [show (List.replicate 511 0).length = 511 by simp, t4] at c3
  have s1 : ((strOf A).toList == (strOf P).toList) = false := by rw [str_lst sA sP]; exact ne
  have s2 : decide (strOf A = strOf P) = false := by rw [str_dec sA sP]; exact ne
  have hm := run_make_u8 511 511 (Nat.le_refl _) (by decide)
  rw [show ((511 : Nat) : Int) = 511 from rfl] at hm
  clear t1 t2 t3 t4 ne
  replace c1 := Lib.hid c1
  replace c2 := Lib.hid c2
  replace c3 := Lib.hid c3
  replace lk := Lib.hid lk
  replace sk := Lib.hid sk
  replace bk := Lib.hid bk
  replace eP := Lib.hid eP
  replace lP := Lib.hid lP
  replace sP := Lib.hid sP
  replace eA := Lib.hid eA
  replace lA := Lib.hid lA
  replace sA := Lib.hid sA
  replace s1 := Lib.hid s1
  replace s2 := Lib.hid s2
  have hcv : ∀ (x : World) (C : Array Value) (n c : Nat), (convert 25 25 (.slice (some ⟨x.heap.size, 0, none⟩) n c)).run Try.prog (x.alloc (.cells C 5)) = .ok (.slice (some ⟨x.heap.size, 0, none⟩) n c) (x.alloc (.cells C 5 (C.size, C.size + 1))) :=
    fun x C n c => Lib.run_convert_bytes_const x 25 5 C n c Try.underlying25 Try.underlying5
  have p0 := mark_text w
  have b0 : Below w.heap.size w (w.alloc (.cells #[.int .u8 120] 5 (1, 2))) := (Below.refl _ _).alloc (Nat.le_refl _) _
  replace p0 := Lib.hid p0
  replace b0 := Lib.hid b0
  go_enter Try.func13, Try.ntmps13
  go_wp2_with (first
    | refine wpList_build1 (by rfl) 23 0 (.int .u8 1) rfl (u8s k) bk.out ?_)
  refine (cb.out _ _ p0.out).mono ?_
  rintro e w1 ⟨g1, rfl, R1, -, B1⟩
  have L1 := b0.out.trans (B1.mono b0.out.size)
  have T1 := row_whole R1 sP.out lP.out
  clear p0 b0 B1 R1
  replace L1 := Lib.hid L1
  replace T1 := Lib.hid T1
  go_wp2_with fail
  refine (c1.out _ _ T1.out).mono ?_
  rintro e w2 ⟨va, rfl, T2, B2⟩
  have L2 := L1.out.trans (B2.mono L1.out.size)
  clear T1 B2 L1 c1
  replace L2 := Lib.hid L2
  replace T2 := Lib.hid T2
  go_wp2_with (first
    | refine wpList_build1 (by rfl) 23 0 (.int .u8 1) rfl (u8s k) bk.out ?_)
  refine (c2.out _ _ T2.out).mono ?_
  rintro e w3 ⟨vb, rfl, T3, B3⟩
  have L3 := L2.out.trans (B3.mono L2.out.size)
  have T2' := T2.out.below B3
  clear T2 B3 L2 c2
  replace L3 := Lib.hid L3
  replace T2' := Lib.hid T2'
  replace T3 := Lib.hid T3
  go_wp2_with (first
    | refine wpList_build1 (by rfl) 23 0 (.int .u8 1) rfl (u8s k) bk.out ?_)
  have r4 : RowB (w3.alloc (.cells (u8s (List.replicate 511 0)) 5)) w3.heap.size 5 (List.replicate 511 0) := heap_alloc_new _ _
  have b4 : Below w3.heap.size w3 (w3.alloc (.cells (u8s (List.replicate 511 0)) 5)) := (Below.refl _ _).alloc (Nat.le_refl _) _
  have T4 := row_whole r4 (by intro x hx; have := (List.mem_replicate.1 hx).2; omega) (by simp : (List.replicate 511 0).length = 511)
  replace b4 := Lib.hid b4
  replace T4 := Lib.hid T4
  clear r4
  refine (c3.out _ _ T4.out).mono ?_
  rintro e w5 ⟨vc, rfl, -, B5⟩
  have L5 := L3.out.trans (b4.out.trans (B5.mono b4.out.size) |>.mono L3.out.size)
  have Ta := (T2'.out.below b4.out).below B5
  have Tb := (T3.out.below b4.out).below B5
  clear T4 b4 B5 c3 L3 T2' T3 hm
  obtain ⟨ao, cap, rfl, -⟩ := Ta.ex
  rw [lA.out] at Ta ⊢
  replace L5 := Lib.hid L5
  replace Ta := Lib.hid Ta
  replace Tb := Lib.hid Tb
  replace s1 := s1.out
  replace s2 := s2.out
  go_wp2_with fail
  have Wa := Ta.out.drew
  have Wb := Tb.out.drew
  have Wl := L5.out.drew
  replace Wa := Lib.hid Wa
  replace Wb := Lib.hid Wb
  replace Wl := Lib.hid Wl
  clear Ta Tb L5
  refine wp_region_held_drew (S := (fun w' => TextAt w' (.slice ao 512 cap) A ∧ TextAt w' vb P)) (by kernel_rfl) (⟨Wa.out, Wb.out⟩) (fun hHeld => ?_)
  refine held_take (i := 0) (v := ?_) rfl (by kernel_rfl) (by kernel_rfl) (by kernel_rfl) (fun _ _ _ h => h) (Or.inl ⟨by rfl, ?_⟩) (by assumption) ?_
  rotate_left
  · intro w hSw; (try dsimp only at hSw); go_simp; try with_reducible rfl
  try simp only [Act.put, List.setIfInBounds_toArray, List.set_cons_zero, List.set_cons_succ]
  refine held_take (i := 1) (v := ?_) rfl (by kernel_rfl) (by kernel_rfl) (by kernel_rfl) (fun _ _ _ h => h) (Or.inl ⟨by rfl, ?_⟩) (by assumption) ?_
  rotate_left
  · intro w hSw; (try dsimp only at hSw); go_simp; try with_reducible rfl
  try simp only [Act.put, List.setIfInBounds_toArray, List.set_cons_zero, List.set_cons_succ]
  refine held_take (i := 2) (v := ?_) rfl (by kernel_rfl) (by kernel_rfl) (by kernel_rfl) (fun _ _ _ h => h) (Or.inl ⟨by rfl, ?_⟩) (by assumption) ?_
  rotate_left
  · intro w hSw; (try dsimp only at hSw); go_simp; try with_reducible rfl
  try simp only [Act.put, List.setIfInBounds_toArray, List.set_cons_zero, List.set_cons_succ]
  refine held_take (i := 3) (v := ?_) rfl (by kernel_rfl) (by kernel_rfl) (by kernel_rfl) (fun _ _ _ h => h) (Or.inl ⟨by rfl, ?_⟩) (by assumption) ?_
  rotate_left
  · intro w hSw; (try dsimp only at hSw); go_simp; try with_reducible rfl
  try simp only [Act.put, List.setIfInBounds_toArray, List.set_cons_zero, List.set_cons_succ]
  refine held_take (i := 4) (v := ?_) rfl (by kernel_rfl) (by kernel_rfl) (by kernel_rfl) (fun _ _ _ h => h) (Or.inl ⟨by rfl, ?_⟩) (by assumption) ?_
  rotate_left
  · intro w hSw; (try dsimp only at hSw); go_simp; try with_reducible rfl
  try simp only [Act.put, List.setIfInBounds_toArray, List.set_cons_zero, List.set_cons_succ]
  refine held_take (i := 5) (v := ?_) rfl (by kernel_rfl) (by kernel_rfl) (by kernel_rfl) (fun _ _ _ h => h) (Or.inl ⟨by rfl, ?_⟩) (by assumption) ?_
  rotate_left
  · intro w hSw; (try dsimp only at hSw); go_simp; try with_reducible rfl
  try simp only [Act.put, List.setIfInBounds_toArray, List.set_cons_zero, List.set_cons_succ]
  refine held_take (i := 6) (v := ?_) rfl (by kernel_rfl) (by kernel_rfl) (by kernel_rfl) (fun _ _ _ h => h) (Or.inl ⟨by rfl, ?_⟩) (by assumption) ?_
  rotate_left
  · intro w hSw; (try dsimp only at hSw); go_simp; try with_reducible rfl
  try simp only [Act.put, List.setIfInBounds_toArray, List.set_cons_zero, List.set_cons_succ]
  refine held_take (i := 7) (v := ?_) rfl (by kernel_rfl) (by kernel_rfl) (by kernel_rfl) (fun _ _ _ h => h) (Or.inl ⟨by rfl, ?_⟩) (by assumption) ?_
  rotate_left
  · intro w hSw; (try dsimp only at hSw); go_simp; try with_reducible rfl
  try simp only [Act.put, List.setIfInBounds_toArray, List.set_cons_zero, List.set_cons_succ]
  refine held_take (i := 8) (v := ?_) rfl (by kernel_rfl) (by kernel_rfl) (by kernel_rfl) (fun _ _ _ h => h) (Or.inl ⟨by rfl, ?_⟩) (by assumption) ?_
  rotate_left
  · intro w hSw; (try dsimp only at hSw); go_simp; try with_reducible rfl
  try simp only [Act.put, List.setIfInBounds_toArray, List.set_cons_zero, List.set_cons_succ]
  refine held_take (i := 9) (v := _) rfl (by kernel_rfl) (by kernel_rfl) (by kernel_rfl) (fun _ _ _ h => h) (yieldsIf_str (by rfl) rfl rfl (v := .slice ao 512 cap) (fun w' h => h.1)) (by assumption) ?_
  try simp only [Act.put, List.setIfInBounds_toArray, List.set_cons_zero, List.set_cons_succ]
  refine held_take (i := 10) (v := ?_) rfl (by kernel_rfl) (by kernel_rfl) (by kernel_rfl) (fun _ _ _ h => h) (Or.inl ⟨by rfl, ?_⟩) (by assumption) ?_
  rotate_left
  · intro w hSw; (try dsimp only at hSw); go_simp; try with_reducible rfl
  try simp only [Act.put, List.setIfInBounds_toArray, List.set_cons_zero, List.set_cons_succ]
  refine held_take (i := 11) (v := _) rfl (by kernel_rfl) (by kernel_rfl) (by kernel_rfl) (fun _ _ _ h => h) (yieldsIf_str (by rfl) rfl rfl (v := vb) (fun w' h => h.2)) (by assumption) ?_
  try simp only [Act.put, List.setIfInBounds_toArray, List.set_cons_zero, List.set_cons_succ]
  refine held_take (i := 12) (v := ?_) rfl (by kernel_rfl) (by kernel_rfl) (by kernel_rfl) (fun _ _ _ h => h) (Or.inl ⟨by rfl, ?_⟩) (by assumption) ?_
  rotate_left
  · intro w hSw; (try dsimp only at hSw); go_simp; try with_reducible rfl
  try simp only [Act.put, List.setIfInBounds_toArray, List.set_cons_zero, List.set_cons_succ]
  refine held_take (i := 13) (v := ?_) rfl (by kernel_rfl) (by kernel_rfl) (by kernel_rfl) (fun _ _ _ h => h) (Or.inl ⟨by rfl, ?_⟩) (by assumption) ?_
  rotate_left
  · intro w hSw; (try dsimp only at hSw); go_simp; try with_reducible rfl
  try simp only [Act.put, List.setIfInBounds_toArray, List.set_cons_zero, List.set_cons_succ]
  refine held_take (i := 14) (v := ?_) rfl (by kernel_rfl) (by kernel_rfl) (by kernel_rfl) (fun _ _ _ h => h) (Or.inl ⟨by rfl, ?_⟩) (by assumption) ?_
  rotate_left
  · intro w hSw; (try dsimp only at hSw); go_simp; try with_reducible rfl
  try simp only [Act.put, List.setIfInBounds_toArray, List.set_cons_zero, List.set_cons_succ]
  refine held_take (i := 15) (v := ?_) rfl (by kernel_rfl) (by kernel_rfl) (by kernel_rfl) (fun _ _ _ h => h) (Or.inl ⟨by rfl, ?_⟩) (by assumption) ?_
  rotate_left
  · intro w hSw; (try dsimp only at hSw); go_simp; try with_reducible rfl
  try simp only [Act.put, List.setIfInBounds_toArray, List.set_cons_zero, List.set_cons_succ]
  refine held_take (i := 16) (v := ?_) rfl (by kernel_rfl) (by kernel_rfl) (by kernel_rfl) (fun _ _ _ h => h) (Or.inl ⟨by rfl, ?_⟩) (by assumption) ?_
  rotate_left
  · intro w hSw; (try dsimp only at hSw); go_simp; try with_reducible rfl
  try simp only [Act.put, List.setIfInBounds_toArray, List.set_cons_zero, List.set_cons_succ]
  refine held_take (i := 17) (v := ?_) rfl (by kernel_rfl) (by kernel_rfl) (by kernel_rfl) (fun _ _ _ h => h) (Or.inl ⟨by rfl, ?_⟩) (by assumption) ?_
  rotate_left
  · intro w hSw; (try dsimp only at hSw); go_simp; try with_reducible rfl
  try simp only [Act.put, List.setIfInBounds_toArray, List.set_cons_zero, List.set_cons_succ]
  refine held_take (i := 18) (v := ?_) rfl (by kernel_rfl) (by kernel_rfl) (by kernel_rfl) (fun _ _ _ h => h) (Or.inl ⟨by rfl, ?_⟩) (by assumption) ?_
  rotate_left
  · intro w hSw; (try dsimp only at hSw); go_simp; try with_reducible rfl
  try simp only [Act.put, List.setIfInBounds_toArray, List.set_cons_zero, List.set_cons_succ]
  refine held_take (i := 19) (v := ?_) rfl (by kernel_rfl) (by kernel_rfl) (by kernel_rfl) (fun _ _ _ h => h) (Or.inl ⟨by rfl, ?_⟩) (by assumption) ?_
  rotate_left
  · intro w hSw; (try dsimp only at hSw); go_simp; try with_reducible rfl
  try simp only [Act.put, List.setIfInBounds_toArray, List.set_cons_zero, List.set_cons_succ]
  refine held_take (i := 20) (v := _) rfl (by kernel_rfl) (by kernel_rfl) (by kernel_rfl) (fun _ _ _ h => h) (yieldsIf_str (by rfl) rfl rfl (v := vb) (fun w' h => h.2)) (by assumption) ?_
  try simp only [Act.put, List.setIfInBounds_toArray, List.set_cons_zero, List.set_cons_succ]
  refine held_ready (i := 21) rfl (by kernel_rfl) (fun K hK => ?_)
  go_simp
  refine hK.out _ _ (⟨Wa.out.alloc _, Wb.out.alloc _⟩) (fun hHeldN => ?_)
  clear hHeld hK K
  have hHeld := hHeldN
  clear hHeldN
  try simp only [Act.put, List.setIfInBounds_toArray, List.set_cons_zero, List.set_cons_succ]
  have hcd : (convert 25 25 (.slice (some ⟨w5.heap.size, 0, none⟩) 1 1)).run Try.prog (w5.alloc (.cells #[.int .u8 120] 5)).drew = .ok (.slice (some ⟨w5.heap.size, 0, none⟩) 1 1) (w5.drew.alloc (.cells #[.int .u8 120] 5 (1, 2))) := hcv w5.drew #[.int .u8 120] 1 1
  clear hcv
  refine held_ready (i := 22) rfl (by kernel_rfl) (fun K hK => ?_)
  go_simp
  clear hcd
  have p5 := mark_text w5.drew
  have b5 : Below w5.drew.heap.size w5.drew (w5.drew.alloc (.cells #[.int .u8 120] 5 (1, 2))) := (Below.refl _ _).alloc (Nat.le_refl _) _
  have Wc := Wa.out.alloc (.cells #[.int .u8 120] 5 (1, 2))
  have Wd := Wb.out.alloc (.cells #[.int .u8 120] 5 (1, 2))
  have Wm := Wl.out.trans (b5.mono Wl.out.size)
  clear Wa Wb Wl b5
  replace Wc := Lib.hid Wc
  replace Wd := Lib.hid Wd
  replace Wm := Lib.hid Wm
  replace p5 := Lib.hid p5
  refine hK.out _ _ (⟨Wc.out, Wd.out⟩) (fun hHeldN => ?_)
  clear hHeld hK K
  have hHeld := hHeldN
  clear hHeldN
  try simp only [Act.put, List.setIfInBounds_toArray, List.set_cons_zero, List.set_cons_succ]
  refine held_ready (i := 23) rfl (by kernel_rfl) (fun K hK => ?_)
  go_simp
  refine (cb.out _ _ p5.out).mono ?_
  rintro e w6 ⟨g6, rfl, R6, -, B6⟩
  have T6 := row_whole R6 sP.out lP.out
  have Wn := Wm.out.trans (B6.mono Wm.out.size)
  have We := Wc.out.below B6
  have Wf := Wd.out.below B6
  clear p5 Wc Wd Wm R6 B6 cb
  replace T6 := Lib.hid T6
  replace Wn := Lib.hid Wn
  replace We := Lib.hid We
  replace Wf := Lib.hid Wf
  refine hK.out _ _ (⟨We.out, Wf.out⟩) (fun hHeldN => ?_)
  clear hHeld hK K
  have hHeld := hHeldN
  clear hHeldN
  try simp only [Act.put, List.setIfInBounds_toArray, List.set_cons_zero, List.set_cons_succ]
  refine held_ready (i := 24) rfl (by kernel_rfl) (fun K hK => ?_)
  rw [if_pos (by rfl)]
  refine wp_str rfl rfl T6.out ?_
  refine hK.out _ _ (⟨We.out, Wf.out⟩) (fun hHeldN => ?_)
  clear hHeld hK K
  have hHeld := hHeldN
  clear hHeldN
  try simp only [Act.put, List.setIfInBounds_toArray, List.set_cons_zero, List.set_cons_succ]
  refine held_take (i := 25) (v := ?_) rfl (by kernel_rfl) (by kernel_rfl) (by kernel_rfl) (fun _ _ _ h => h) (Or.inl ⟨by rfl, ?_⟩) (by assumption) ?_
  rotate_left
  · intro w hSw; (try dsimp only at hSw); go_simp; try with_reducible rfl
  try simp only [Act.put, List.setIfInBounds_toArray, List.set_cons_zero, List.set_cons_succ]
  refine held_take (i := 26) (v := ?_) rfl (by kernel_rfl) (by kernel_rfl) (by kernel_rfl) (fun _ _ _ h => h) (Or.inl ⟨by rfl, ?_⟩) (by assumption) ?_
  rotate_left
  · intro w hSw; (try dsimp only at hSw); go_simp; try with_reducible rfl
  try simp only [Act.put, List.setIfInBounds_toArray, List.set_cons_zero, List.set_cons_succ]
  refine held_take (i := 27) (v := ?_) rfl (by kernel_rfl) (by kernel_rfl) (by kernel_rfl) (fun _ _ _ h => h) (Or.inl ⟨by rfl, ?_⟩) (by assumption) ?_
  rotate_left
  · intro w hSw; (try dsimp only at hSw); go_simp; try with_reducible rfl
  try simp only [Act.put, List.setIfInBounds_toArray, List.set_cons_zero, List.set_cons_succ]
  refine held_take (i := 28) (v := ?_) rfl (by kernel_rfl) (by kernel_rfl) (by kernel_rfl) (fun _ _ _ h => h) (Or.inl ⟨by rfl, ?_⟩) (by assumption) ?_
  rotate_left
  · intro w hSw; (try dsimp only at hSw); go_simp; try with_reducible rfl
  try simp only [Act.put, List.setIfInBounds_toArray, List.set_cons_zero, List.set_cons_succ]
  refine held_take (i := 29) (v := ?_) rfl (by kernel_rfl) (by kernel_rfl) (by kernel_rfl) (fun _ _ _ h => h) (Or.inl ⟨by rfl, ?_⟩) (by assumption) ?_
  rotate_left
  · intro w hSw; (try dsimp only at hSw); go_simp; try with_reducible rfl
  try simp only [Act.put, List.setIfInBounds_toArray, List.set_cons_zero, List.set_cons_succ]
  refine held_take (i := 30) (v := ?_) rfl (by kernel_rfl) (by kernel_rfl) (by kernel_rfl) (fun _ _ _ h => h) (Or.inl ⟨by rfl, ?_⟩) (by assumption) ?_
  rotate_left
  · intro w hSw; (try dsimp only at hSw); go_simp; try with_reducible rfl
  try simp only [Act.put, List.setIfInBounds_toArray, List.set_cons_zero, List.set_cons_succ]
  refine held_take (i := 31) (v := ?_) rfl (by kernel_rfl) (by kernel_rfl) (by kernel_rfl) (fun _ _ _ h => h) (Or.inl ⟨by rfl, ?_⟩) (by assumption) ?_
  rotate_left
  · intro w hSw; (try dsimp only at hSw); go_simp; try with_reducible rfl
  try simp only [Act.put, List.setIfInBounds_toArray, List.set_cons_zero]
  refine wpAnyH_done (by kernel_rfl) ?_ _
  clear hHeld
  go_wp2_with fail
  go_ret
  exact ⟨rfl, Wn.out⟩
theorem alive22 (w : World) : Calls Try.prog 13 #[] w fun e w' => e = .returned (.bool true) ∧ Below w.heap.size w w' :=
  alive22_of w (key1 1) (blockL [120]) (slturnL (key1 1) 2 3 (blockL [120])) (key1_length 1) (key1_small (by decide)) built_key1 rfl (blockL_length (by decide)) (blockL_small (by decide)) rfl alive_apart
end Go.Proofs.Ytecmagenlbnchaa
namespace Go.Proofs.Ytecmagenlbnchaa
set_option maxRecDepth 100000
open Go.RowKit

theorem tab_small22 {f : Nat → Nat} (h : Bytes16 f) : ∀ x ∈ tab f, x < 256 := fun x hx => by
  obtain ⟨i, hi, rfl⟩ := List.mem_map.1 hx
  exact h i (List.mem_range.1 hi)
set_option maxHeartbeats 4000000 in
set_option maxRecDepth 100000 in
theorem r22turn_any (w : World) (m : List Nat) (n s : Nat) (lm : m.length = 32) (hn : n < 18446744073709551616) (hs : s < 18446744073709551616) (vm v : Value) (l : List Nat) (hm : TextAt w vm m) (hl : TextAt w v l) :
    Calls Try.prog 15 #[vm, .int .u64 (n : Int), .int .u64 (s : Int), v, .bool false] w fun e w' => ∃ x, e = .returned (.tuple #[x, .int .i64 (slE l.length)]) ∧ TextAt w' x (slturnT m n s l) ∧ Below w.heap.size w w' := by
  obtain ⟨ao, cap, rfl, _⟩ := hl.ex
  unfold slE slturnT
  by_cases h : l.length = 512
  · rw [if_pos h, if_pos h]
    rw [h] at hl ⊢
    have cd1 := Lib.hid (fun wx (h : TextAt wx vm m) => ref_derive wx vm m ⟨#[111, 110, 101]⟩ n h (by omega) (by decide) hn)
    have cd2 := Lib.hid (fun wx (h : TextAt wx vm m) => ref_derive wx vm m ⟨#[116, 119, 111]⟩ n h (by omega) (by decide) hn)
    rw [text_one] at cd1
    rw [text_two] at cd2
    have eo : volK m nmOne n = macs m (nmOne ++ beBytes 8 n ++ [1]) := rfl
    have et : volK m nmTwo n = macs m (nmTwo ++ beBytes 8 n ++ [1]) := rfl
    rw [← eo] at cd1
    rw [← et] at cd2
    have cn1 := Lib.hid (fun wx vk (h : TextAt wx vk (volK m nmOne n)) => rnew_any wx vk (volK m nmOne n) (volK_length _ _ _) h)
    have cn2 := Lib.hid (fun wx vk (h : TextAt wx vk (volK m nmTwo n)) => rnew_any wx vk (volK m nmTwo n) (volK_length _ _ _) h)
    have e1 : byt (wordsOf (byt (volK m nmOne n))) = vol1 m n := rfl
    have e2 : byt (wordsOf (byt (volK m nmTwo n))) = vol2 m n := rfl
    rw [e1] at cn1
    rw [e2] at cn2
    have cs := Lib.hid (fun wx c1 c2 vt (h1 : RefAt wx c1 (vol1 m n)) (h2 : RefAt wx c2 (vol2 m n)) (ht : TextAt wx vt (tab (twk s))) (hx : TextAt wx (.slice ao 512 cap) l) => r6turn_ok wx c1 c2 (vol1 m n) (vol2 m n) h1 h2 (vol1_lt m n) (vol2_lt m n) vt (twk s) (twk_lt s) ht ao l 512 cap h hx rfl)
    have eO : bytesOf (sec (turnF (vol1 m n)) (turnF (vol2 m n) (twk s)) (byt l)) 512 = slturnL m n s l := rfl
    rw [eO] at cs
    have ct := Lib.hid (fun wx => ref_tweak wx s hs)
    have sO := Lib.hid (fun h => slturnL_small (m := m) (n := n) (s := s) (l := l) h)
    clear eo et e1 e2 eO
    generalize vol1 m n = V at *
    generalize vol2 m n = W at *
    generalize slturnL m n s l = O at *
    generalize volK m nmOne n = K1 at *
    generalize volK m nmTwo n = K2 at *
    replace lm := Lib.hid lm
    replace hm := Lib.hid hm
    replace hl := Lib.hid hl
    replace h := Lib.hid h
    go_enter Try.func15, Try.ntmps15
    go_wp2_with fail
    refine (cd1.out _ hm.out).mono ?_
    rintro e w1 ⟨v1, rfl, T1, B1⟩
    clear cd1
    replace T1 := Lib.hid T1
    replace B1 := Lib.hid B1
    go_wp2_with fail
    refine (cn1.out _ _ T1.out).mono ?_
    rintro e w2 ⟨c, aw, cw, vb, vk2, rfl, rC, B2⟩
    have R2 : RefAt w2 c V := ⟨_, _, _, _, rC⟩
    have L2 := B1.out.trans (B2.mono B1.out.size)
    clear cn1 B1 B2 T1 rC
    replace R2 := Lib.hid R2
    replace L2 := Lib.hid L2
    go_wp2_with fail
    refine (cd2.out _ (hm.out.below L2.out)).mono ?_
    rintro e w3 ⟨v3, rfl, T3, B3⟩
    have L3 := L2.out.trans (B3.mono L2.out.size)
    have R3 := R2.out.below B3
    clear cd2 L2 R2 B3
    replace R3 := Lib.hid R3
    replace L3 := Lib.hid L3
    replace T3 := Lib.hid T3
    go_wp2_with fail
    refine (cn2.out _ _ T3.out).mono ?_
    rintro e w4 ⟨c', aw', cw', vb', vk', rfl, rC, B4⟩
    have Q4 : RefAt w4 c' W := ⟨_, _, _, _, rC⟩
    have L4 := L3.out.trans (B4.mono L3.out.size)
    have R4 := R3.out.below B4
    clear cn2 L3 R3 B4 T3 rC
    replace R4 := Lib.hid R4
    replace Q4 := Lib.hid Q4
    replace L4 := Lib.hid L4
    go_wp2_with fail
    refine (ct.out _).mono ?_
    rintro e w5 ⟨v5, rfl, O5, B5⟩
    have T5 := O5.text (tab_small22 (twk_lt s))
    have L5 := L4.out.trans (B5.mono L4.out.size)
    have R5 := R4.out.below B5
    have Q5 := Q4.out.below B5
    clear ct L4 R4 Q4 B5 O5
    replace R5 := Lib.hid R5
    replace Q5 := Lib.hid Q5
    replace L5 := Lib.hid L5
    replace T5 := Lib.hid T5
    go_wp2_with fail
    refine (cs.out _ _ _ _ R5.out Q5.out T5.out (hl.out.below L5.out)).mono ?_
    rintro e w6 ⟨v6, rfl, O6, B6⟩
    have L6 := L5.out.trans (B6.mono L5.out.size)
    have T6 := O6.text (sO.out hl.out.small)
    clear cs B6 O6
    replace L6 := Lib.hid L6
    replace T6 := Lib.hid T6
    go_wp2_with fail
    go_ret2
    exact ⟨_, rfl, T6.out, L6.out⟩
  · rw [if_neg h, if_neg h]
    have d : ((l.length : Int) == 512) = false := beq_eq_false_iff_ne.2 (by omega)
    generalize l.length = k at *
    replace hl := Lib.hid hl
    replace hm := Lib.hid hm
    go_enter Try.func15, Try.ntmps15
    go_wp2_with fail
    go_ret2
    exact ⟨_, rfl, TextAt.nil _, Below.refl _ _⟩
set_option maxHeartbeats 4000000 in
set_option maxRecDepth 100000 in
theorem r22back_any (w : World) (m : List Nat) (n s : Nat) (lm : m.length = 32) (hn : n < 18446744073709551616) (hs : s < 18446744073709551616) (vm v : Value) (l : List Nat) (hm : TextAt w vm m) (hl : TextAt w v l) :
    Calls Try.prog 15 #[vm, .int .u64 (n : Int), .int .u64 (s : Int), v, .bool true] w fun e w' => ∃ x, e = .returned (.tuple #[x, .int .i64 (slE l.length)]) ∧ TextAt w' x (slbackT m n s l) ∧ Below w.heap.size w w' := by
  obtain ⟨ao, cap, rfl, _⟩ := hl.ex
  unfold slE slbackT
  by_cases h : l.length = 512
  · rw [if_pos h, if_pos h]
    rw [h] at hl ⊢
    have cd1 := Lib.hid (fun wx (h : TextAt wx vm m) => ref_derive wx vm m ⟨#[111, 110, 101]⟩ n h (by omega) (by decide) hn)
    have cd2 := Lib.hid (fun wx (h : TextAt wx vm m) => ref_derive wx vm m ⟨#[116, 119, 111]⟩ n h (by omega) (by decide) hn)
    rw [text_one] at cd1
    rw [text_two] at cd2
    have eo : volK m nmOne n = macs m (nmOne ++ beBytes 8 n ++ [1]) := rfl
    have et : volK m nmTwo n = macs m (nmTwo ++ beBytes 8 n ++ [1]) := rfl
    rw [← eo] at cd1
    rw [← et] at cd2
    have cn1 := Lib.hid (fun wx vk (h : TextAt wx vk (volK m nmOne n)) => rnew_any wx vk (volK m nmOne n) (volK_length _ _ _) h)
    have cn2 := Lib.hid (fun wx vk (h : TextAt wx vk (volK m nmTwo n)) => rnew_any wx vk (volK m nmTwo n) (volK_length _ _ _) h)
    have e1 : byt (wordsOf (byt (volK m nmOne n))) = vol1 m n := rfl
    have e2 : byt (wordsOf (byt (volK m nmTwo n))) = vol2 m n := rfl
    rw [e1] at cn1
    rw [e2] at cn2
    have cs := Lib.hid (fun wx c1 c2 vt (h1 : RefAt wx c1 (vol1 m n)) (h2 : RefAt wx c2 (vol2 m n)) (ht : TextAt wx vt (tab (twk s))) (hx : TextAt wx (.slice ao 512 cap) l) => r6back_ok wx c1 c2 (vol1 m n) (vol2 m n) h1 h2 (vol1_lt m n) (vol2_lt m n) vt (twk s) (twk_lt s) ht ao l 512 cap h hx rfl)
    have eO : bytesOf (sec (backF (vol1 m n)) (turnF (vol2 m n) (twk s)) (byt l)) 512 = slbackL m n s l := rfl
    rw [eO] at cs
    have ct := Lib.hid (fun wx => ref_tweak wx s hs)
    have sO := Lib.hid (fun h => slbackL_small (m := m) (n := n) (s := s) (l := l) h)
    clear eo et e1 e2 eO
    generalize vol1 m n = V at *
    generalize vol2 m n = W at *
    generalize slbackL m n s l = O at *
    generalize volK m nmOne n = K1 at *
    generalize volK m nmTwo n = K2 at *
    replace lm := Lib.hid lm
    replace hm := Lib.hid hm
    replace hl := Lib.hid hl
    replace h := Lib.hid h
    go_enter Try.func15, Try.ntmps15
    go_wp2_with fail
    refine (cd1.out _ hm.out).mono ?_
    rintro e w1 ⟨v1, rfl, T1, B1⟩
    clear cd1
    replace T1 := Lib.hid T1
    replace B1 := Lib.hid B1
    go_wp2_with fail
    refine (cn1.out _ _ T1.out).mono ?_
    rintro e w2 ⟨c, aw, cw, vb, vk2, rfl, rC, B2⟩
    have R2 : RefAt w2 c V := ⟨_, _, _, _, rC⟩
    have L2 := B1.out.trans (B2.mono B1.out.size)
    clear cn1 B1 B2 T1 rC
    replace R2 := Lib.hid R2
    replace L2 := Lib.hid L2
    go_wp2_with fail
    refine (cd2.out _ (hm.out.below L2.out)).mono ?_
    rintro e w3 ⟨v3, rfl, T3, B3⟩
    have L3 := L2.out.trans (B3.mono L2.out.size)
    have R3 := R2.out.below B3
    clear cd2 L2 R2 B3
    replace R3 := Lib.hid R3
    replace L3 := Lib.hid L3
    replace T3 := Lib.hid T3
    go_wp2_with fail
    refine (cn2.out _ _ T3.out).mono ?_
    rintro e w4 ⟨c', aw', cw', vb', vk', rfl, rC, B4⟩
    have Q4 : RefAt w4 c' W := ⟨_, _, _, _, rC⟩
    have L4 := L3.out.trans (B4.mono L3.out.size)
    have R4 := R3.out.below B4
    clear cn2 L3 R3 B4 T3 rC
    replace R4 := Lib.hid R4
    replace Q4 := Lib.hid Q4
    replace L4 := Lib.hid L4
    go_wp2_with fail
    refine (ct.out _).mono ?_
    rintro e w5 ⟨v5, rfl, O5, B5⟩
    have T5 := O5.text (tab_small22 (twk_lt s))
    have L5 := L4.out.trans (B5.mono L4.out.size)
    have R5 := R4.out.below B5
    have Q5 := Q4.out.below B5
    clear ct L4 R4 Q4 B5 O5
    replace R5 := Lib.hid R5
    replace Q5 := Lib.hid Q5
    replace L5 := Lib.hid L5
    replace T5 := Lib.hid T5
    go_wp2_with fail
    refine (cs.out _ _ _ _ R5.out Q5.out T5.out (hl.out.below L5.out)).mono ?_
    rintro e w6 ⟨v6, rfl, O6, B6⟩
    have L6 := L5.out.trans (B6.mono L5.out.size)
    have T6 := O6.text (sO.out hl.out.small)
    clear cs B6 O6
    replace L6 := Lib.hid L6
    replace T6 := Lib.hid T6
    go_wp2_with fail
    go_ret2
    exact ⟨_, rfl, T6.out, L6.out⟩
  · rw [if_neg h, if_neg h]
    have d : ((l.length : Int) == 512) = false := beq_eq_false_iff_ne.2 (by omega)
    generalize l.length = k at *
    replace hl := Lib.hid hl
    replace hm := Lib.hid hm
    go_enter Try.func15, Try.ntmps15
    go_wp2_with fail
    go_ret2
    exact ⟨_, rfl, TextAt.nil _, Below.refl _ _⟩
end Go.Proofs.Ytecmagenlbnchaa
namespace Go.Proofs.Ytecmagenlbnchaa
set_option maxRecDepth 100000
open Go.RowKit

set_option maxHeartbeats 4000000 in
set_option maxRecDepth 100000 in
theorem sealTurns_law (w : World) (m : List Nat) (n s : Nat) (lm : m.length = 32) (sm : ∀ x ∈ m, x < 256) (hn : n < 18446744073709551616) (hs : s < 18446744073709551616) (v : Value) (l : List Nat) (ht : TextAt w v l) :
    Calls Try.prog 3 #[.agg (u8s m), .int .u64 (n : Int), .int .u64 (s : Int), v] w fun e w' => e = .returned (.bool true) ∧ Below w.heap.size w w' := by
  have r0 : RowB (w.alloc (.cells (u8s m) 23)) w.heap.size 23 m := heap_alloc_new _ _
  have b0 : Below w.heap.size w (w.alloc (.cells (u8s m) 23)) := (Below.refl _ _).alloc (Nat.le_refl _) _
  have t0 := ht.below b0
  have iM := infoKey lm
  have al := Lib.hid (fun wx => alive22 wx)
  have c1 := Lib.hid (fun wx (h : TextAt wx v l) => sealturn_any wx m n s lm sm hn v l h)
  have c2 := Lib.hid (fun wx vm (h1 : TextAt wx vm m) (h : TextAt wx v l) => r22turn_any wx m n s lm hn hs vm v l h1 h)
  have c3 := Lib.hid (fun wx (h : TextAt wx v l) => sealback_any wx m n s lm sm hn v l h)
  have c4 := Lib.hid (fun wx vm (h1 : TextAt wx vm m) (h : TextAt wx v l) => r22back_any wx m n s lm hn hs vm v l h1 h)
  obtain ⟨ao, cap, rfl, _⟩ := ht.ex
  generalize slturnT m n s l = A at *
  generalize slbackT m n s l = B at *
  generalize slE l.length = E at *
  replace r0 := Lib.hid r0
  replace b0 := Lib.hid b0
  replace t0 := Lib.hid t0
  replace iM := Lib.hid iM
  replace ht := Lib.hid ht
  replace lm := Lib.hid lm
  replace sm := Lib.hid sm
  by_cases h : 2000 < l.length
  · have d : decide ((l.length : Int) > 2000) = true := decide_eq_true (by omega)
    generalize l.length = k at *
    go_enter Try.func3, Try.ntmps3
    go_wp2_with fail
    refine (al.out _).mono ?_
    rintro e w2 ⟨rfl, B2⟩
    have low := b0.out.trans (B2.mono b0.out.size)
    replace low := Lib.hid low
    go_wp2_with fail
    go_ret
    exact ⟨rfl, low.out⟩
  · have d : decide ((l.length : Int) > 2000) = false := decide_eq_false (by omega)
    generalize l.length = k at *
    go_enter Try.func3, Try.ntmps3
    go_wp2_with (first
      | refine wpList_load_b (by rfl) 23 (.tmp 4) rfl w.heap.size rfl 23 m r0.out _ Try.underlying23 rfl iM.out ?_)
    refine (c1.out _ t0.out).mono ?_
    rintro e w1 ⟨x1, rfl, T1, B1⟩
    have L1 := b0.out.trans (B1.mono b0.out.size)
    have r1 := r0.out.below B1 r0.out.lt
    have t1 := t0.out.below B1
    clear c1 B1 r0 t0 b0
    replace L1 := Lib.hid L1
    replace r1 := Lib.hid r1
    replace t1 := Lib.hid t1
    replace T1 := Lib.hid T1
    go_wp2_with fail
    refine (c2.out _ _ (row_whole r1.out sm.out lm.out) t1.out).mono ?_
    rintro e w2 ⟨x2, rfl, T2, B2⟩
    have L2 := L1.out.trans (B2.mono L1.out.size)
    have r2 := r1.out.below B2 r1.out.lt
    have t2 := t1.out.below B2
    have T1b := T1.out.below B2
    clear c2 B2 r1 t1 L1 T1
    replace L2 := Lib.hid L2
    replace r2 := Lib.hid r2
    replace t2 := Lib.hid t2
    replace T2 := Lib.hid T2
    replace T1b := Lib.hid T1b
    go_wp2_with (first
      | refine wpList_load_b (by rfl) 23 (.tmp 4) rfl w.heap.size rfl 23 m r2.out _ Try.underlying23 rfl iM.out ?_)
    refine (c3.out _ t2.out).mono ?_
    rintro e w3 ⟨x3, rfl, T3, B3⟩
    have L3 := L2.out.trans (B3.mono L2.out.size)
    have r3 := r2.out.below B3 r2.out.lt
    have t3 := t2.out.below B3
    have T1c := T1b.out.below B3
    have T2c := T2.out.below B3
    clear c3 B3 r2 t2 L2 T1b T2
    replace L3 := Lib.hid L3
    replace r3 := Lib.hid r3
    replace t3 := Lib.hid t3
    replace T3 := Lib.hid T3
    replace T1c := Lib.hid T1c
    replace T2c := Lib.hid T2c
    go_wp2_with fail
    refine (c4.out _ _ (row_whole r3.out sm.out lm.out) t3.out).mono ?_
    rintro e w4 ⟨x4, rfl, T4, B4⟩
    have L4 := L3.out.trans (B4.mono L3.out.size)
    have T1d := T1c.out.below B4
    have T2d := T2c.out.below B4
    have T3d := T3.out.below B4
    clear c4 B4 r3 t3 L3 T1c T2c T3
    replace L4 := Lib.hid L4
    replace T4 := Lib.hid T4
    replace T1d := Lib.hid T1d
    replace T2d := Lib.hid T2d
    replace T3d := Lib.hid T3d
    go_wp2_with fail
    refine (al.out _).mono ?_
    rintro e w5 ⟨rfl, B5⟩
    have L5 := L4.out.trans (B5.mono L4.out.size)
    have q1 := run_str (T1d.out.below B5)
    have q2 := run_str (T2d.out.below B5)
    have q3 := run_str (T3d.out.below B5)
    have q4 := run_str (T4.out.below B5)
    clear B5
    replace L5 := Lib.hid L5
    go_wp2_with fail
    go_ret
    exact ⟨rfl, L5.out⟩
end Go.Proofs.Ytecmagenlbnchaa
namespace Go.Proofs.Ytecmagenlbnchaa
set_option maxRecDepth 100000
open Go.RowKit

set_option maxHeartbeats 4000000 in
set_option maxRecDepth 100000 in
theorem sealBack_law (w : World) (m : List Nat) (n s : Nat) (lm : m.length = 32) (sm : ∀ x ∈ m, x < 256) (hn : n < 18446744073709551616) (v : Value) (l : List Nat) (ht : TextAt w v l) :
    Calls Try.prog 4 #[.agg (u8s m), .int .u64 (n : Int), .int .u64 (s : Int), v] w fun e w' => e = .returned (.bool true) ∧ Below w.heap.size w w' := by
  have r0 : RowB (w.alloc (.cells (u8s m) 23)) w.heap.size 23 m := heap_alloc_new _ _
  have b0 : Below w.heap.size w (w.alloc (.cells (u8s m) 23)) := (Below.refl _ _).alloc (Nat.le_refl _) _
  have t0 := ht.below b0
  have iM := infoKey lm
  have al := Lib.hid (fun wx => alive22 wx)
  have st := ht.small
  obtain ⟨ao, cap, rfl, _⟩ := ht.ex
  by_cases h : 512 < l.length
  · have d : decide ((l.length : Int) > 512) = true := decide_eq_true (by omega)
    replace r0 := Lib.hid r0
    replace b0 := Lib.hid b0
    replace t0 := Lib.hid t0
    replace iM := Lib.hid iM
    replace ht := Lib.hid ht
    replace lm := Lib.hid lm
    replace sm := Lib.hid sm
    replace st := Lib.hid st
    generalize l.length = k at *
    go_enter Try.func4, Try.ntmps4
    go_wp2_with fail
    refine (al.out _).mono ?_
    rintro e w2 ⟨rfl, B2⟩
    have low := b0.out.trans (B2.mono b0.out.size)
    replace low := Lib.hid low
    go_wp2_with fail
    go_ret
    exact ⟨rfl, low.out⟩
  · have d : decide ((l.length : Int) > 512) = false := decide_eq_false (by omega)
    have cb := fun wx h => block_any wx (.slice ao l.length cap) l h (by omega)
    have lP := blockL_length (t := l) (by omega)
    have sP := blockL_small st
    generalize blockL l = P at *
    have lA := slturnL_length m n s P
    have sA := slturnL_small (m := m) (n := n) (s := s) sP
    have lB := slbackL_length m n s P
    have sB := slbackL_small (m := m) (n := n) (s := s) sP
    have eA : slturnT m n s P = slturnL m n s P := if_pos lP
    have eB : slbackT m n s P = slbackL m n s P := if_pos lP
    have eC : slbackT m n s (slturnL m n s P) = P := (if_pos lA).trans (slback_turn m n s lP sP)
    have eD : slturnT m n s (slbackL m n s P) = P := (if_pos lB).trans (slturn_back m n s lP sP)
    have c1 := fun wx v (h : TextAt wx v P) => sealturn_any wx m n s lm sm hn v P h
    have c2 := fun wx v (h : TextAt wx v P) => sealback_any wx m n s lm sm hn v P h
    have c3 := fun wx v (h : TextAt wx v (slturnL m n s P)) => sealback_any wx m n s lm sm hn v _ h
    have c4 := fun wx v (h : TextAt wx v (slbackL m n s P)) => sealturn_any wx m n s lm sm hn v _ h
    rw [eA, lP, show slE 512 = 0 from rfl] at c1
    rw [eB, lP, show slE 512 = 0 from rfl] at c2
    rw [eC, lA, show slE 512 = 0 from rfl] at c3
    rw [eD, lB, show slE 512 = 0 from rfl] at c4
    clear eA eB eC eD
    generalize slturnL m n s P = A at *
    generalize slbackL m n s P = B at *
    replace r0 := Lib.hid r0
    replace b0 := Lib.hid b0
    replace t0 := Lib.hid t0
    replace iM := Lib.hid iM
    replace ht := Lib.hid ht
    replace lm := Lib.hid lm
    replace sm := Lib.hid sm
    replace st := Lib.hid st
    replace cb := Lib.hid cb
    replace lP := Lib.hid lP
    replace sP := Lib.hid sP
    replace lA := Lib.hid lA
    replace sA := Lib.hid sA
    replace lB := Lib.hid lB
    replace sB := Lib.hid sB
    replace c1 := Lib.hid c1
    replace c2 := Lib.hid c2
    replace c3 := Lib.hid c3
    replace c4 := Lib.hid c4
    generalize l.length = k at *
    go_enter Try.func4, Try.ntmps4
    go_wp2_with fail
    refine (cb.out _ t0.out).mono ?_
    rintro e w1 ⟨g1, rfl, R1, -, B1⟩
    have L1 := b0.out.trans (B1.mono b0.out.size)
    have r1 := r0.out.below B1 r0.out.lt
    have T1 := row_whole R1 sP.out lP.out
    clear cb B1 r0 t0 b0 R1
    replace L1 := Lib.hid L1
    replace r1 := Lib.hid r1
    replace T1 := Lib.hid T1
    go_wp2_with (first
      | refine wpList_load_b (by rfl) 23 (.tmp 4) rfl w.heap.size rfl 23 m r1.out _ Try.underlying23 rfl iM.out ?_)
    refine (c1.out _ _ T1.out).mono ?_
    rintro e w2 ⟨x2, rfl, T2, B2⟩
    have L2 := L1.out.trans (B2.mono L1.out.size)
    have r2 := r1.out.below B2 r1.out.lt
    replace T1 := Lib.hid (T1.out.below B2)
    clear c1 B2 r1 L1
    replace L2 := Lib.hid L2
    replace r2 := Lib.hid r2
    replace T2 := Lib.hid T2
    go_wp2_with (first
      | refine wpList_load_b (by rfl) 23 (.tmp 4) rfl w.heap.size rfl 23 m r2.out _ Try.underlying23 rfl iM.out ?_)
    refine (c3.out _ _ T2.out).mono ?_
    rintro e w3 ⟨x3, rfl, T3, B3⟩
    have L3 := L2.out.trans (B3.mono L2.out.size)
    have r3 := r2.out.below B3 r2.out.lt
    replace T1 := Lib.hid (T1.out.below B3)
    clear c3 B3 r2 L2 T2
    replace L3 := Lib.hid L3
    replace r3 := Lib.hid r3
    replace T3 := Lib.hid T3
    go_wp2_with (first
      | refine wpList_load_b (by rfl) 23 (.tmp 4) rfl w.heap.size rfl 23 m r3.out _ Try.underlying23 rfl iM.out ?_)
    refine (c2.out _ _ T1.out).mono ?_
    rintro e w4 ⟨x4, rfl, T4, B4⟩
    have L4 := L3.out.trans (B4.mono L3.out.size)
    have r4 := r3.out.below B4 r3.out.lt
    replace T1 := Lib.hid (T1.out.below B4)
    replace T3 := Lib.hid (T3.out.below B4)
    clear c2 B4 r3 L3
    replace L4 := Lib.hid L4
    replace r4 := Lib.hid r4
    replace T4 := Lib.hid T4
    go_wp2_with (first
      | refine wpList_load_b (by rfl) 23 (.tmp 4) rfl w.heap.size rfl 23 m r4.out _ Try.underlying23 rfl iM.out ?_)
    refine (c4.out _ _ T4.out).mono ?_
    rintro e w5 ⟨x5, rfl, T5, B5⟩
    have L5 := L4.out.trans (B5.mono L4.out.size)
    replace T1 := Lib.hid (T1.out.below B5)
    replace T3 := Lib.hid (T3.out.below B5)
    clear c4 B5 r4 L4 T4
    replace L5 := Lib.hid L5
    replace T5 := Lib.hid T5
    go_wp2_with fail
    refine (al.out _).mono ?_
    rintro e w6 ⟨rfl, B6⟩
    have L6 := L5.out.trans (B6.mono L5.out.size)
    have q1 := run_str (T1.out.below B6)
    have q2 := run_str (T3.out.below B6)
    have q3 := run_str (T5.out.below B6)
    clear B6
    replace L6 := Lib.hid L6
    go_wp2_with fail
    go_ret
    exact ⟨rfl, L6.out⟩
end Go.Proofs.Ytecmagenlbnchaa
