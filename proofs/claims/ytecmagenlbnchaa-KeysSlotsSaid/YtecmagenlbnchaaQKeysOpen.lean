/-
  keys: Open. Conditions: keys, salts, checks of 32 bytes; a wrapped key of 40.
-/
import Derived.Test.YtecmagenlbnchaaQKeysBase
import Derived.Test.YtecmagenlbnchaaQKeysRow
import Derived.Test.YtecmagenlbnchaaQWrapBack07
import Derived.Test.YtecmagenlbnchaaQHmacExpand
namespace Go.Proofs.Ytecmagenlbnchaa
set_option maxRecDepth 100000
open Go.RowKit

/-- Open's error. -/
def openE (outer salt C WR : List Nat) : Int := if (baseK outer salt nmCheck == C) = true then (if unwE (byt (wordsOf (byt (baseK outer salt nmWrap)))) WR = 0 then 0 else 40) else 50
/-- Open's key. -/
def openL (outer salt C WR : List Nat) : List Nat := if openE outer salt C WR = 0 then (unL (byt (wordsOf (byt (baseK outer salt nmWrap)))) WR).drop 8 else List.replicate 32 0
/-- What Open keeps. -/
structure OpSt (w w' : World) (gx : Option Nat) (o S cur : List Nat) (m : List Nat) : Prop where
  o : RowB w' w.heap.size 23 o
  s : RowB w' (w.heap.size + 1) 51 S
  z : RowB w' (w.heap.size + 2) 23 (List.replicate 32 0)
  m : RowB w' (w.heap.size + 3) 23 m
  x : ∀ g, gx = some g → RowB w' g 23 cur ∧ w.heap.size + 4 ≤ g
  low : Below w.heap.size w w'
theorem OpSt.call {w w' w2 : World} {gx : Option Nat} {o S cur m : List Nat} (h : OpSt w w' gx o S cur m) (hB : Below w'.heap.size w' w2) : OpSt w w2 gx o S cur m :=
  ⟨h.o.below hB h.o.lt, h.s.below hB h.s.lt, h.z.below hB h.z.lt, h.m.below hB h.m.lt, fun g e => ⟨(h.x g e).1.below hB (h.x g e).1.lt, (h.x g e).2⟩, h.low.trans (hB.mono h.low.size)⟩
theorem OpSt.allocX {w w' : World} {g : Nat} {o S cur m : List Nat} (h : OpSt w w' none o S cur m) (hg : w'.heap.size = g) : OpSt w (w'.alloc (.cells (u8s (List.replicate 32 0)) 23)) (some g) o S (List.replicate 32 0) m := by
  subst hg
  have h2 := h.call ((Below.refl _ _).alloc (Nat.le_refl _) (.cells (u8s (List.replicate 32 0)) 23))
  exact ⟨h2.o, h2.s, h2.z, h2.m, fun g e => by cases e; exact ⟨heap_alloc_new _ _, by have := h.m.lt; omega⟩, h2.low⟩
theorem OpSt.put {w w' w2 : World} {g : Nat} {o S cur cur' m : List Nat} (h : OpSt w w' (some g) o S cur m) (hR : RowB w2 g 23 cur') (hU : Upd (fun i => i = g) w' w2) : OpSt w w2 (some g) o S cur' m := by
  have hg := (h.x g rfl).2
  exact ⟨h.o.other (hU.block _ h.o.lt (by omega)), h.s.other (hU.block _ h.s.lt (by omega)), h.z.other (hU.block _ h.z.lt (by omega)), h.m.other (hU.block _ h.m.lt (by omega)), fun k e => by cases e; exact ⟨hR, hg⟩, h.low.trans (hU.below (fun k hk e => by omega) h.low.size)⟩
theorem OpSt.begin (w : World) (o S : List Nat) : OpSt w ((((w.alloc (.cells (u8s o) 23)).alloc (.cells (u8s S) 51)).alloc (.cells (u8s (List.replicate 32 0)) 23)).alloc (.cells (u8s (List.replicate 32 0)) 23)) none o S [] (List.replicate 32 0) := by
  have r0 : RowB (w.alloc (.cells (u8s o) 23)) w.heap.size 23 o := heap_alloc_new _ _
  have r1 : RowB ((w.alloc (.cells (u8s o) 23)).alloc (.cells (u8s S) 51)) (w.heap.size + 1) 51 S := by
    rw [show w.heap.size + 1 = (w.alloc (.cells (u8s o) 23)).heap.size by simp]; exact heap_alloc_new _ _
  have r2 : RowB (((w.alloc (.cells (u8s o) 23)).alloc (.cells (u8s S) 51)).alloc (.cells (u8s (List.replicate 32 0)) 23)) (w.heap.size + 2) 23 (List.replicate 32 0) := by
    rw [show w.heap.size + 2 = ((w.alloc (.cells (u8s o) 23)).alloc (.cells (u8s S) 51)).heap.size by simp]; exact heap_alloc_new _ _
  have r3 : RowB ((((w.alloc (.cells (u8s o) 23)).alloc (.cells (u8s S) 51)).alloc (.cells (u8s (List.replicate 32 0)) 23)).alloc (.cells (u8s (List.replicate 32 0)) 23)) (w.heap.size + 3) 23 (List.replicate 32 0) := by
    rw [show w.heap.size + 3 = (((w.alloc (.cells (u8s o) 23)).alloc (.cells (u8s S) 51)).alloc (.cells (u8s (List.replicate 32 0)) 23)).heap.size by simp]; exact heap_alloc_new _ _
  exact ⟨((r0.alloc _).alloc _).alloc _, (r1.alloc _).alloc _, r2.alloc _, r3, fun g e => by simp at e, ((((Below.refl _ _).alloc (Nat.le_refl _) _).alloc (by simp) _).alloc (by simp; omega) _).alloc (by simp; omega) _⟩
theorem slot_parts {salt C WR : List Nat} (hs : salt.length = 32) (hC : C.length = 32) (hW : WR.length = 40) :
    ((salt ++ (C ++ WR)).drop 0).take salt.length = salt ∧ ((salt ++ (C ++ WR)).drop 32).take 32 = C ∧ ((salt ++ (C ++ WR)).drop 64).take 40 = WR ∧ (salt ++ (C ++ WR)).length = 104 := by
  refine ⟨by simp, ?_, ?_, by simp [hs, hC, hW]⟩
  · rw [List.drop_append, List.drop_eq_nil_of_le (by omega), hs]; simp [← hC]
  · rw [List.drop_append, List.drop_eq_nil_of_le (by omega), hs, List.nil_append, List.drop_append, List.drop_eq_nil_of_le (by omega), hC]; simp [← hW]

set_option maxHeartbeats 4000000 in
set_option maxRecDepth 100000 in
theorem open_any (w : World) (outer salt C WR : List Nat) (ho : outer.length = 32) (so : ∀ x ∈ outer, x < 256) (hs : salt.length = 32) (ss : ∀ x ∈ salt, x < 256) (hC : C.length = 32) (sC : ∀ x ∈ C, x < 256) (hW : WR.length = 40) (sW : ∀ x ∈ WR, x < 256) :
    Calls Try.prog 23 #[.agg (u8s outer), .agg (u8s (salt ++ (C ++ WR)))] w fun e w' => e = .returned (.tuple #[.agg (u8s (openL outer salt C WR)), .int .i64 (openE outer salt C WR)]) ∧ Below w.heap.size w w' := by
  have st0 := OpSt.begin w outer (salt ++ (C ++ WR))
  have cb1 := Lib.hid (fun wx => base_any wx outer salt nmCheck ⟨#[99, 104, 101, 99, 107]⟩ ho so hs ss text_check (by decide))
  have cb2 := Lib.hid (fun wx => base_any wx outer salt nmWrap ⟨#[119, 114, 97, 112]⟩ ho so hs ss text_wrap (by decide))
  have iO := infoKey ho
  have iS := infoA32 hs
  have lC := baseK_length outer salt nmCheck
  have bC := baseK_small outer salt nmCheck
  obtain ⟨p0, p1, p2, lS⟩ := slot_parts hs hC hW
  have sS : ∀ x ∈ salt ++ (C ++ WR), x < 256 := by
    intro x hx
    rcases List.mem_append.1 hx with h | h
    · exact ss x h
    · rcases List.mem_append.1 h with h | h
      · exact sC x h
      · exact sW x h
  have cu := Lib.hid (fun wx v (h : TextAt wx v WR) => unwrap_st wx (baseK outer salt nmWrap) (baseK_length _ _ _) (baseK_small _ _ _) v WR h (by omega))
  have lU : ((unL (byt (wordsOf (byt (baseK outer salt nmWrap)))) WR).drop 8).length = 32 := by rw [List.length_drop, length_unL, hW]
  have eE : openE outer salt C WR = if (baseK outer salt nmCheck == C) = true then (if unwE (byt (wordsOf (byt (baseK outer salt nmWrap)))) WR = 0 then 0 else 40) else 50 := rfl
  have eL : openL outer salt C WR = if openE outer salt C WR = 0 then (unL (byt (wordsOf (byt (baseK outer salt nmWrap)))) WR).drop 8 else List.replicate 32 0 := rfl
  have iZ : (Try.prog.info? 23).map (·.size) = some (u8s (List.replicate 32 0)).size := by rw [iO, size_u8s, size_u8s, ho]; simp
  have iC : (Try.prog.info? 23).map (·.size) = some (u8s (baseK outer salt nmCheck)).size := infoKey lC
  have iU := infoKey lU
  have zC : (u8s (List.replicate 32 0)).size = (u8s (baseK outer salt nmCheck)).size := by rw [size_u8s, size_u8s, lC]; simp
  generalize baseK outer salt nmCheck = C0 at *
  generalize openL outer salt C WR = LL at *
  generalize openE outer salt C WR = EE at *
  generalize (unL (byt (wordsOf (byt (baseK outer salt nmWrap)))) WR).drop 8 = UL at *
  generalize unwE (byt (wordsOf (byt (baseK outer salt nmWrap)))) WR = E at *
  generalize baseK outer salt nmWrap = KW at *
  generalize salt ++ (C ++ WR) = SL at *
  replace st0 := Lib.hid st0
  replace so := Lib.hid so
  replace ss := Lib.hid ss
  replace sC := Lib.hid sC
  replace sW := Lib.hid sW
  replace sS := Lib.hid sS
  replace lC := Lib.hid lC
  replace bC := Lib.hid bC
  replace ho := Lib.hid ho
  replace hs := Lib.hid hs
  replace hC := Lib.hid hC
  replace hW := Lib.hid hW
  replace p0 := Lib.hid p0
  replace p1 := Lib.hid p1
  replace p2 := Lib.hid p2
  replace lS := Lib.hid lS
  replace lU := Lib.hid lU
  replace eE := Lib.hid eE
  replace eL := Lib.hid eL
  replace iU := Lib.hid iU
  replace iZ := Lib.hid iZ
  go_enter Try.func23, Try.ntmps23
  have p0' := row_range st0.out.s p0.out (by rw [lS.out, hs.out]; decide)
  replace p0' := Lib.hid p0'
  go_wp2_with (first
    | refine wpList_load_b (by rfl) 23 (.tmp 2) rfl w.heap.size rfl 23 outer st0.out.o _ Try.underlying23 rfl iO ?_
    | refine wpList_load_part (by rfl) 22 (.tmp 11) rfl (w.heap.size + 1) 0 rfl salt Try.underlying22 iS p0'.out rfl ?_)
  refine (cb1.out _).mono ?_
  rintro e wx ⟨rfl, Bx⟩
  have st1 := st0.out.call Bx
  clear Bx
  replace st1 := Lib.hid st1
  go_wp2_with (first
    | (have h5 := st1.out.allocX rfl; have z5 := h5.x _ rfl
       refine wpList_store_s (by rfl) 23 (.tmp 7) (.tmp 13) rfl wx.heap.size C0 rfl rfl 23 _ z5.1 iC zC ?_
       intro w6 R6 U6
       have h6 := h5.put R6.out U6.out
       clear h5 z5 R6 U6 st1
       replace h6 := Lib.hid h6))
  have hD := h6.out.call (Below.refl _ _).drew
  have tC := row_whole (hD.x _ rfl).1 bC.out lC.out
  have tS := row_part2 (o := 32) (n := 32) hD.s p1.out (by rw [lS.out]; decide) sS.out
  have cs := Lib.hid (same_any w6.drew _ _ C0 C tC tS (by rw [lC.out]; decide) (by rw [hC.out]; decide))
  replace hD := Lib.hid hD
  clear tC tS h6
  refine wp_region_held_drew (S := (fun _ => True)) (by kernel_rfl) (trivial) (fun hHeld => ?_)
  refine held_take (i := 0) (v := ?_) rfl (by kernel_rfl) (by kernel_rfl) (by kernel_rfl) (fun _ _ _ h => h) (Or.inl ⟨by rfl, ?_⟩) (by assumption) ?_
  rotate_left
  · intro w hSw; (try dsimp only at hSw); go_simp; try with_reducible rfl
  try simp only [Act.put, List.setIfInBounds_toArray, List.set_cons_zero, List.set_cons_succ]
  refine held_take (i := 1) (v := ?_) rfl (by kernel_rfl) (by kernel_rfl) (by kernel_rfl) (fun _ _ _ h => h) (Or.inl ⟨by rfl, ?_⟩) (by assumption) ?_
  rotate_left
  · intro w hSw; (try dsimp only at hSw); go_simp; try with_reducible rfl
  try simp only [Act.put, List.setIfInBounds_toArray, List.set_cons_zero, List.set_cons_succ]
  refine held_take (i := 2) (v := ?_) rfl (by kernel_rfl) (by kernel_rfl) (by kernel_rfl) (fun _ _ _ h => h) (Or.inl ⟨by rfl, ?_⟩) (by assumption) ?_
  rotate_left
  · intro w hSw; (try dsimp only at hSw); go_simp; try with_reducible rfl
  try simp only [Act.put, List.setIfInBounds_toArray, List.set_cons_zero, List.set_cons_succ]
  refine held_ready (i := 3) rfl (by kernel_rfl) (fun K hK => ?_)
  go_simp
  refine cs.out.mono ?_
  rintro e w7 ⟨rfl, rfl⟩
  refine hK.out _ _ (trivial) (fun hHeldN => ?_)
  clear hHeld hK K
  have hHeld := hHeldN
  clear hHeldN
  try simp only [Act.put, List.setIfInBounds_toArray, List.set_cons_zero, List.set_cons_succ]
  refine held_take (i := 4) (v := ?_) rfl (by kernel_rfl) (by kernel_rfl) (by kernel_rfl) (fun _ _ _ h => h) (Or.inl ⟨by rfl, ?_⟩) (by assumption) ?_
  rotate_left
  · intro w hSw; (try dsimp only at hSw); go_simp; try with_reducible rfl
  try simp only [Act.put, List.setIfInBounds_toArray, List.set_cons_zero, List.set_cons_succ]
  refine wpAnyH_done (by kernel_rfl) ?_ _
  clear hHeld
  clear cs
  cases hb : (C0 == C) with
  | false =>
    rw [hb] at eE
    rw [if_neg (by decide)] at eE
    go_wp2_with (first
      | refine wpList_load_b (by rfl) 23 (.tmp 6) rfl (w.heap.size + 1 + 1 + 1) rfl 23 (List.replicate 32 0) hD.out.m _ Try.underlying23 rfl iZ.out ?_
      | (refine wpList_store_s (by rfl) 23 (.tmp 4) (.tmp 19) rfl (w.heap.size + 1 + 1) (List.replicate 32 0) rfl rfl 23 _ hD.out.z iZ.out rfl ?_; intro w9 R9 U9))
    have e1 : EE = 50 := eE.out
    have e2 : LL = List.replicate 32 0 := by rw [eL.out, e1, if_neg (by decide)]
    rw [e1, e2]
    refine ret_row_tmp rfl rfl (w.heap.size + 1 + 1) 23 _ (0, 0) _ _ rfl rfl R9.out Try.underlying23 rfl iZ.out ⟨rfl, ?_⟩
    exact hD.out.low.trans (U9.out.below (fun k hk e => by omega) hD.out.low.size)
  | true =>
    rw [hb] at eE
    rw [if_pos rfl] at eE
    go_wp2_with fail
    have hE := hD.out.call (Below.refl _ _).drew
    clear hD
    refine wp_region_held_drew (S := (fun w' => RowB w' w.heap.size 23 outer ∧ RowB w' (w.heap.size + 1) 51 SL)) (by kernel_rfl) (⟨hE.o, hE.s⟩) (fun hHeld => ?_)
    refine held_take (i := 0) (v := _) rfl (by kernel_rfl) (by kernel_rfl) (by kernel_rfl) (fun _ _ _ h => h) (yieldsIf_row (by rfl) rfl rfl Try.underlying23 iO (fun w' h => h.1)) (by assumption) ?_
    try simp only [Act.put, List.setIfInBounds_toArray, List.set_cons_zero, List.set_cons_succ]
    refine held_take (i := 1) (v := ?_) rfl (by kernel_rfl) (by kernel_rfl) (by kernel_rfl) (fun _ _ _ h => h) (Or.inl ⟨by rfl, ?_⟩) (by assumption) ?_
    rotate_left
    · intro w hSw; (try dsimp only at hSw); go_simp; try with_reducible rfl
    try simp only [Act.put, List.setIfInBounds_toArray, List.set_cons_zero, List.set_cons_succ]
    refine held_take (i := 2) (v := _) rfl (by kernel_rfl) (by kernel_rfl) (by kernel_rfl) (fun _ _ _ h => h) (yieldsIf_part (by rfl) rfl rfl salt Try.underlying22 iS (fun w' h => row_range h.2 p0.out (by rw [lS.out, hs.out]; decide))) (by assumption) ?_
    try simp only [Act.put, List.setIfInBounds_toArray, List.set_cons_zero, List.set_cons_succ]
    refine held_take (i := 4) (v := ?_) rfl (by kernel_rfl) (by kernel_rfl) (by kernel_rfl) (fun _ _ _ h => h) (Or.inl ⟨by rfl, ?_⟩) (by assumption) ?_
    rotate_left
    · intro w hSw; (try dsimp only at hSw); go_simp; try with_reducible rfl
    try simp only [Act.put, List.setIfInBounds_toArray, List.set_cons_zero, List.set_cons_succ]
    refine held_take (i := 5) (v := ?_) rfl (by kernel_rfl) (by kernel_rfl) (by kernel_rfl) (fun _ _ _ h => h) (Or.inl ⟨by rfl, ?_⟩) (by assumption) ?_
    rotate_left
    · intro w hSw; (try dsimp only at hSw); go_simp; try with_reducible rfl
    try simp only [Act.put, List.setIfInBounds_toArray, List.set_cons_zero, List.set_cons_succ]
    refine held_ready (i := 3) rfl (by kernel_rfl) (fun K hK => ?_)
    go_simp
    refine (cb2.out _).mono ?_
    rintro e w8 ⟨rfl, B8⟩
    have h8 := hE.call B8
    clear B8 hE
    replace h8 := Lib.hid h8
    refine hK.out _ _ (⟨h8.out.o, h8.out.s⟩) (fun hHeldN => ?_)
    clear hHeld hK K
    have hHeld := hHeldN
    clear hHeldN
    try simp only [Act.put, List.setIfInBounds_toArray, List.set_cons_zero, List.set_cons_succ]
    refine held_ready (i := 6) rfl (by kernel_rfl) (fun K hK => ?_)
    go_simp
    refine (cu.out w8 _ (row_part2 (o := 64) (n := 40) h8.out.s p2.out (by rw [lS.out]; decide) sS.out)).mono ?_
    rintro e w9 ⟨v9, rfl, t9, B9⟩
    have h9 := h8.out.call B9
    clear B9 h8
    replace h9 := Lib.hid h9
    replace t9 := Lib.hid t9
    refine hK.out _ _ (⟨h9.out.o, h9.out.s⟩) (fun hHeldN => ?_)
    clear hHeld hK K
    have hHeld := hHeldN
    clear hHeldN
    try simp only [Act.put, List.setIfInBounds_toArray, List.set_cons_zero, List.set_cons_succ]
    refine held_take (i := 7) (v := ?_) rfl (by kernel_rfl) (by kernel_rfl) (by kernel_rfl) (fun _ _ _ h => h) (Or.inl ⟨by rfl, ?_⟩) (by assumption) ?_
    rotate_left
    · intro w hSw; (try dsimp only at hSw); go_simp; try with_reducible rfl
    try simp only [Act.put, List.setIfInBounds_toArray, List.set_cons_zero, List.set_cons_succ]
    refine held_take (i := 8) (v := ?_) rfl (by kernel_rfl) (by kernel_rfl) (by kernel_rfl) (fun _ _ _ h => h) (Or.inl ⟨by rfl, ?_⟩) (by assumption) ?_
    rotate_left
    · intro w hSw; (try dsimp only at hSw); go_simp; try with_reducible rfl
    try simp only [Act.put, List.setIfInBounds_toArray, List.set_cons_zero, List.set_cons_succ]
    refine held_take (i := 9) (v := ?_) rfl (by kernel_rfl) (by kernel_rfl) (by kernel_rfl) (fun _ _ _ h => h) (Or.inl ⟨by rfl, ?_⟩) (by assumption) ?_
    rotate_left
    · intro w hSw; (try dsimp only at hSw); go_simp; try with_reducible rfl
    try simp only [Act.put, List.setIfInBounds_toArray, List.set_cons_zero, List.set_cons_succ]
    refine held_take (i := 10) (v := ?_) rfl (by kernel_rfl) (by kernel_rfl) (by kernel_rfl) (fun _ _ _ h => h) (Or.inl ⟨by rfl, ?_⟩) (by assumption) ?_
    rotate_left
    · intro w hSw; (try dsimp only at hSw); go_simp; try with_reducible rfl
    try simp only [Act.put, List.setIfInBounds_toArray, List.set_cons_zero, List.set_cons_succ]
    refine held_take (i := 11) (v := ?_) rfl (by kernel_rfl) (by kernel_rfl) (by kernel_rfl) (fun _ _ _ h => h) (Or.inl ⟨by rfl, ?_⟩) (by assumption) ?_
    rotate_left
    · intro w hSw; (try dsimp only at hSw); go_simp; try with_reducible rfl
    try simp only [Act.put, List.setIfInBounds_toArray, List.set_cons_zero, List.set_cons_succ]
    refine wpAnyH_done (by kernel_rfl) ?_ _
    clear hHeld
    by_cases hE : E = 0
    · subst hE
      rw [if_pos rfl] at eE t9
      obtain ⟨sb, so', c9, rfl, src⟩ := text_src t9.out (by rw [lU.out]; decide)
      rw [lU.out]
      have e2 : LL = UL := by rw [eL.out, eE.out, if_pos rfl]
      have th := row_there h9.out.m (o := 0) (n := UL.length) (by rw [lU.out]; simp)
      have rS := row_setCells (o := 0) (l := UL) h9.out.m (by rw [lU.out]; simp)
      have sp : putL2 (List.replicate 32 0) 0 UL = UL := by unfold putL2; rw [lU.out]; simp
      rw [sp] at rS
      have hU := upd_setCells (b := w.heap.size + 3) (u8l UL) 0 w9
      replace src := Lib.hid src
      replace th := Lib.hid th
      replace rS := Lib.hid rS
      replace hU := Lib.hid hU
      clear t9
      have z9 : RowB (w9.setCells (w.heap.size + 1 + 1 + 1) 0 (u8l UL)) (w.heap.size + 1 + 1) 23 (List.replicate 32 0) := h9.out.z.other (hU.out.block _ h9.out.z.lt (by omega))
      have hlo : Below w.heap.size w (w9.setCells (w.heap.size + 1 + 1 + 1) 0 (u8l UL)) := h9.out.low.trans (hU.out.below (fun k hk e => by omega) h9.out.low.size)
      have zU : (u8s (List.replicate 32 0)).size = (u8s UL).size := by rw [size_u8s, size_u8s, lU.out]; simp
      replace z9 := Lib.hid z9
      replace hlo := Lib.hid hlo
      replace zU := Lib.hid zU
      replace e2 := Lib.hid e2
      go_wp2_with (first
        | refine wpList_copy_cells (by rfl) (.tmp 33) (.tmp 34) 25 25 rfl 5 Try.underlying25 infoU8s (w.heap.size + 1 + 1 + 1) 0 32 32 32 c9 sb so' rfl rfl UL (by rw [lU.out]; decide) src.out th.out ?_
        | refine wpList_load_b (by rfl) 23 (.tmp 6) rfl (w.heap.size + 1 + 1 + 1) rfl 23 UL rS.out _ Try.underlying23 rfl iU.out ?_
        | (refine wpList_store_s (by rfl) 23 (.tmp 4) (.tmp 36) rfl (w.heap.size + 1 + 1) UL rfl rfl 23 _ z9.out iU.out zU.out ?_; intro wa Ra Ua))
      rw [eE.out, e2.out]
      refine ret_row_tmp rfl rfl (w.heap.size + 1 + 1) 23 _ (0, 0) _ _ rfl rfl Ra.out Try.underlying23 rfl iU.out ⟨rfl, ?_⟩
      exact hlo.out.trans (Ua.out.below (fun k hk e => by omega) hlo.out.size)
    · rw [if_neg hE] at eE
      have hE' : decide (E = 0) = false := decide_eq_false hE
      go_wp2_with (first
        | refine wpList_load_b (by rfl) 23 (.tmp 6) rfl (w.heap.size + 1 + 1 + 1) rfl 23 (List.replicate 32 0) h9.out.m _ Try.underlying23 rfl iZ.out ?_
        | (refine wpList_store_s (by rfl) 23 (.tmp 4) (.tmp 32) rfl (w.heap.size + 1 + 1) (List.replicate 32 0) rfl rfl 23 _ h9.out.z iZ.out rfl ?_; intro wa Ra Ua))
      have e1 : EE = 40 := eE.out
      have e2 : LL = List.replicate 32 0 := by rw [eL.out, e1, if_neg (by decide)]
      rw [e1, e2]
      refine ret_row_tmp rfl rfl (w.heap.size + 1 + 1) 23 _ (0, 0) _ _ rfl rfl Ra.out Try.underlying23 rfl iZ.out ⟨rfl, ?_⟩
      exact h9.out.low.trans (Ua.out.below (fun k hk e => by omega) h9.out.low.size)
end Go.Proofs.Ytecmagenlbnchaa
