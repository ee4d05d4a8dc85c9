/-
  keys: Make. Conditions: keys and salts of 32 bytes.
  Law 21: what is opened of what was made; alive. Condition of the first: keys and salts of 32 bytes.
  KeysParts. Condition: numbers of 64 bits.
  KeysStamps. Condition: numbers of their kinds.
  KeysOnce. Condition: numbers of their kinds.
  KeysBack. Conditions: keys and salts of 32 bytes; a byte.
  The reference of layer 21: derived, Check, Open, Make; a slot's bytes (As). Conditions: keys and salts of 32 bytes, a slot of 104.
  The reference of layer 21: Open, Make. Conditions: keys and salts of 32 bytes, a slot of 104.
  KeysSlots. Conditions: keys and salts of 32 bytes, a slot of 104; a number of 64 bits.
-/
import Derived.Test.YtecmagenlbnchaaQKeysBase
import Derived.Test.YtecmagenlbnchaaQKeysRow
import Derived.Test.YtecmagenlbnchaaQWrapBack07
import Derived.Deep.DeepCutAuto
import Derived.Test.YtecmagenlbnchaaQKeysOpen
import Derived.Test.YtecmagenlbnchaaQKeysSmall
import Derived.Test.YtecmagenlbnchaaQCmp
import Derived.Test.YtecmagenlbnchaaQKeyOne
import Derived.Test.YtecmagenlbnchaaQOwn
import Derived.Test.YtecmagenlbnchaaQQuiet
import Derived.Test.YtecmagenlbnchaaQRefStream
import Derived.Test.YtecmagenlbnchaaQWrapWraps07
import Derived.Test.YtecmagenlbnchaaQKeysVol
namespace Go.Proofs.Ytecmagenlbnchaa
set_option maxRecDepth 100000
open Go.RowKit

/-- What Make keeps. -/
structure MkSt (w w' : World) (gx : Option Nat) (o m s : List Nat) (cur : List Nat) : Prop where
  o : RowB w' w.heap.size 23 o
  m : RowB w' (w.heap.size + 1) 23 m
  s : RowB w' (w.heap.size + 2) 22 s
  z : RowB w' (w.heap.size + 3) 51 (List.replicate 104 0)
  x : ∀ g, gx = some g → RowB w' g 51 cur ∧ w.heap.size + 4 ≤ g
  low : Below w.heap.size w w'
theorem MkSt.call {w w' w2 : World} {gx : Option Nat} {o m s cur : List Nat} (h : MkSt w w' gx o m s cur) (hB : Below w'.heap.size w' w2) : MkSt w w2 gx o m s cur :=
  ⟨h.o.below hB h.o.lt, h.m.below hB h.m.lt, h.s.below hB h.s.lt, h.z.below hB h.z.lt, fun g e => ⟨(h.x g e).1.below hB (h.x g e).1.lt, (h.x g e).2⟩, h.low.trans (hB.mono h.low.size)⟩
theorem MkSt.allocX {w w' : World} {g : Nat} {o m s cur : List Nat} (h : MkSt w w' none o m s cur) (hg : w'.heap.size = g) : MkSt w (w'.alloc (.cells (u8s (List.replicate 104 0)) 51)) (some g) o m s (List.replicate 104 0) := by
  subst hg
  have h2 := h.call ((Below.refl _ _).alloc (Nat.le_refl _) (.cells (u8s (List.replicate 104 0)) 51))
  exact ⟨h2.o, h2.m, h2.s, h2.z, fun g e => by cases e; exact ⟨heap_alloc_new _ _, by have := h.z.lt; omega⟩, h2.low⟩
theorem MkSt.put {w w' w2 : World} {g : Nat} {o m s cur cur' : List Nat} (h : MkSt w w' (some g) o m s cur) (hR : RowB w2 g 51 cur') (hU : Upd (fun i => i = g) w' w2) : MkSt w w2 (some g) o m s cur' := by
  have hg := (h.x g rfl).2
  exact ⟨h.o.other (hU.block _ h.o.lt (by omega)), h.m.other (hU.block _ h.m.lt (by omega)), h.s.other (hU.block _ h.s.lt (by omega)), h.z.other (hU.block _ h.z.lt (by omega)), fun k e => by cases e; exact ⟨hR, hg⟩, h.low.trans (hU.below (fun k hk e => by omega) h.low.size)⟩
theorem MkSt.begin (w : World) (o m s : List Nat) : MkSt w ((((w.alloc (.cells (u8s o) 23)).alloc (.cells (u8s m) 23)).alloc (.cells (u8s s) 22)).alloc (.cells (u8s (List.replicate 104 0)) 51)) none o m s [] := by
  have r0 : RowB (w.alloc (.cells (u8s o) 23)) w.heap.size 23 o := heap_alloc_new _ _
  have r1 : RowB ((w.alloc (.cells (u8s o) 23)).alloc (.cells (u8s m) 23)) (w.heap.size + 1) 23 m := by
    rw [show w.heap.size + 1 = (w.alloc (.cells (u8s o) 23)).heap.size by simp]; exact heap_alloc_new _ _
  have r2 : RowB (((w.alloc (.cells (u8s o) 23)).alloc (.cells (u8s m) 23)).alloc (.cells (u8s s) 22)) (w.heap.size + 2) 22 s := by
    rw [show w.heap.size + 2 = ((w.alloc (.cells (u8s o) 23)).alloc (.cells (u8s m) 23)).heap.size by simp]; exact heap_alloc_new _ _
  have r3 : RowB ((((w.alloc (.cells (u8s o) 23)).alloc (.cells (u8s m) 23)).alloc (.cells (u8s s) 22)).alloc (.cells (u8s (List.replicate 104 0)) 51)) (w.heap.size + 3) 51 (List.replicate 104 0) := by
    rw [show w.heap.size + 3 = (((w.alloc (.cells (u8s o) 23)).alloc (.cells (u8s m) 23)).alloc (.cells (u8s s) 22)).heap.size by simp]; exact heap_alloc_new _ _
  exact ⟨((r0.alloc _).alloc _).alloc _, (r1.alloc _).alloc _, r2.alloc _, r3, fun g e => by simp at e, ((((Below.refl _ _).alloc (Nat.le_refl _) _).alloc (by simp) _).alloc (by simp; omega) _).alloc (by simp; omega) _⟩
theorem run_a40 (b : Nat) (x : World) : (Instr.sliceAt 49 (.pointer (some ⟨b, 64, none⟩)) none none none).run Try.prog x = .ok (.slice (some ⟨b, 64, none⟩) 40 40) x := by
  kernel_rfl
theorem slot_put {salt check wrapped : List Nat} (hs : salt.length = 32) (hc : check.length = 32) (hw : wrapped.length = 40) : putL2 (salt ++ (check ++ List.replicate 40 0)) 64 wrapped = salt ++ (check ++ wrapped) := by
  unfold putL2
  rw [List.take_append, List.take_of_length_le (by omega), hs, List.take_append, List.take_of_length_le (by omega), hc, hw]
  rw [List.drop_eq_nil_of_le (by simp [hs, hc])]
  simp

set_option maxHeartbeats 4000000 in
set_option maxRecDepth 100000 in
theorem make_any (w : World) (outer master salt : List Nat) (ho : outer.length = 32) (so : ∀ x ∈ outer, x < 256) (hm : master.length = 32) (sm : ∀ x ∈ master, x < 256) (hs : salt.length = 32) (ss : ∀ x ∈ salt, x < 256) :
    Calls Try.prog 22 #[.agg (u8s outer), .agg (u8s master), .agg (u8s salt)] w fun e w' => e = .returned (.agg (u8s (slotL outer master salt))) ∧ Below w.heap.size w w' := by
  have st0 := MkSt.begin w outer master salt
  have cb1 := Lib.hid (fun wx => base_any wx outer salt nmCheck ⟨#[99, 104, 101, 99, 107]⟩ ho so hs ss text_check (by decide))
  have cb2 := Lib.hid (fun wx => base_any wx outer salt nmWrap ⟨#[119, 114, 97, 112]⟩ ho so hs ss text_wrap (by decide))
  have iO := infoKey ho
  have iS := infoA32 hs
  have lC := baseK_length outer salt nmCheck
  have bs := built_slot hs lC
  have lW := wrapK_length (outer := outer) (salt := salt) hm
  have lL := slotL_length (outer := outer) (salt := salt) hm hs
  have cw := Lib.hid (fun wx v (h : TextAt wx v master) => wrap_st wx (baseK outer salt nmWrap) (baseK_length _ _ _) (baseK_small _ _ _) v master h (by omega))
  rw [hm, if_pos (show fitsB 32 0 = true by decide)] at cw
  have eW : wrapL (byt (wordsOf (byt (baseK outer salt nmWrap)))) master = wrapK outer master salt := rfl
  rw [eW] at cw
  have eL : slotL outer master salt = salt ++ (baseK outer salt nmCheck ++ wrapK outer master salt) := rfl
  have lZ : (salt ++ (baseK outer salt nmCheck ++ List.replicate 40 0)).length = 104 := by simp [hs, lC]
  have sp := slot_put hs lC lW
  rw [← eL] at sp
  clear eW eL
  generalize baseK outer salt nmCheck = C at *
  generalize wrapK outer master salt = WK at *
  generalize slotL outer master salt = SL at *
  generalize wrapE master = E at *
  replace st0 := Lib.hid st0
  replace so := Lib.hid so
  replace sm := Lib.hid sm
  replace ss := Lib.hid ss
  replace lC := Lib.hid lC
  replace lW := Lib.hid lW
  replace lL := Lib.hid lL
  replace bs := Lib.hid bs
  replace ho := Lib.hid ho
  replace hm := Lib.hid hm
  replace hs := Lib.hid hs
  replace sp := Lib.hid sp
  replace lZ := Lib.hid lZ
  go_enter Try.func22, Try.ntmps22
  go_upto_region 1 with fail
  go_cut [7] (fun s7 wx => ∃ gx : Nat, s7 = .pointer (some ⟨gx, 0, none⟩) ∧ MkSt w wx (some gx) outer master salt (salt ++ (C ++ List.replicate 40 0)))
  case first =>
    have hS := st0.out.call (Below.refl _ _).drew
    refine wp_region_held_drew (S := (fun w' => RowB w' w.heap.size 23 outer ∧ RowB w' (w.heap.size + 2) 22 salt)) (by kernel_rfl) (⟨hS.o, hS.s⟩) (fun hHeld => ?_)
    refine held_take (i := 0) (v := _) rfl (by kernel_rfl) (by kernel_rfl) (by kernel_rfl) (fun _ _ _ h => h) (yieldsIf_row (by rfl) rfl rfl Try.underlying22 iS (fun w' h => h.2)) (by assumption) ?_
    try simp only [Act.put, List.setIfInBounds_toArray, List.set_cons_zero, List.set_cons_succ]
    refine held_take (i := 1) (v := _) rfl (by kernel_rfl) (by kernel_rfl) (by kernel_rfl) (fun _ _ _ h => h) (yieldsIf_row (by rfl) rfl rfl Try.underlying23 iO (fun w' h => h.1)) (by assumption) ?_
    try simp only [Act.put, List.setIfInBounds_toArray, List.set_cons_zero, List.set_cons_succ]
    refine held_take (i := 2) (v := _) rfl (by kernel_rfl) (by kernel_rfl) (by kernel_rfl) (fun _ _ _ h => h) (yieldsIf_row (by rfl) rfl rfl Try.underlying22 iS (fun w' h => h.2)) (by assumption) ?_
    try simp only [Act.put, List.setIfInBounds_toArray, List.set_cons_zero, List.set_cons_succ]
    refine held_readies2 (i0 := 3) (i1 := 5) rfl rfl (by kernel_rfl) (fun K hK => ?_) (fun K hK => ?_)
    ·
      go_simp
      refine (cb1.out _).mono ?_
      rintro e wx ⟨rfl, Bx⟩
      replace hS := hS.call Bx
      clear Bx
      refine hK.out _ _ (⟨hS.o, hS.s⟩) (fun hHeldN => ?_)
      clear hHeld hK K
      have hHeld := hHeldN
      clear hHeldN
      try simp only [Act.put, List.setIfInBounds_toArray, List.set_cons_zero, List.set_cons_succ]
      refine held_readies2 (i0 := 4) (i1 := 5) rfl rfl (by kernel_rfl) (fun K hK => ?_) (fun K hK => ?_)
      ·
        rw [if_pos (by rfl)]
        refine wp_build_is 51 0 1 _ _ rfl _ _ rfl rfl _ bs.out ?_
        refine hK.out _ _ (⟨hS.o, hS.s⟩) (fun hHeldN => ?_)
        clear hHeld hK K
        have hHeld := hHeldN
        clear hHeldN
        try simp only [Act.put, List.setIfInBounds_toArray, List.set_cons_zero, List.set_cons_succ]
        refine held_ready (i := 5) rfl (by kernel_rfl) (fun K hK => ?_)
        replace hS := Lib.hid hS
        go_simp
        replace hS := hS.out
        replace hS := hS.allocX (by (try simp); exact rfl)
        refine hK.out _ _ (⟨hS.o, hS.s⟩) (fun hHeldN => ?_)
        clear hHeld hK K
        have hHeld := hHeldN
        clear hHeldN
        try simp only [Act.put, List.setIfInBounds_toArray, List.set_cons_zero, List.set_cons_succ]
        have zx := hS.x _ rfl
        refine held_ready (i := 6) rfl (by kernel_rfl) (fun K hK => ?_)
        rw [if_pos (by rfl)]
        refine wp_store_s 51 (.tmp 7) (.tmp 14) rfl _ (salt ++ (C ++ List.replicate 40 0)) rfl rfl 51 _ zx.1 (infoSlot lZ.out) (zeroSlot lZ.out) ?_
        intro w6 R6 U6
        have h6 := hS.put R6.out U6.out
        refine hK.out _ _ (⟨h6.o, h6.s⟩) (fun hHeldN => ?_)
        clear hHeld hK K
        have hHeld := hHeldN
        clear hHeldN
        try simp only [Act.put]
        refine wpAnyH_done (by kernel_rfl) ?_ _
        clear hHeld
        clear hS zx R6 U6
        replace h6 := Lib.hid h6
        go_wp2_with fail
        go_meet
        exact ⟨_, rfl, h6.out⟩
      ·
        replace hS := Lib.hid hS
        go_simp
        replace hS := hS.out
        replace hS := hS.allocX (by (try simp); exact rfl)
        refine hK.out _ _ (⟨hS.o, hS.s⟩) (fun hHeldN => ?_)
        clear hHeld hK K
        have hHeld := hHeldN
        clear hHeldN
        try simp only [Act.put, List.setIfInBounds_toArray, List.set_cons_zero, List.set_cons_succ]
        refine held_ready (i := 4) rfl (by kernel_rfl) (fun K hK => ?_)
        rw [if_pos (by rfl)]
        refine wp_build_is 51 0 1 _ _ rfl _ _ rfl rfl _ bs.out ?_
        refine hK.out _ _ (⟨hS.o, hS.s⟩) (fun hHeldN => ?_)
        clear hHeld hK K
        have hHeld := hHeldN
        clear hHeldN
        try simp only [Act.put, List.setIfInBounds_toArray, List.set_cons_zero, List.set_cons_succ]
        have zx := hS.x _ rfl
        refine held_ready (i := 6) rfl (by kernel_rfl) (fun K hK => ?_)
        rw [if_pos (by rfl)]
        refine wp_store_s 51 (.tmp 7) (.tmp 14) rfl _ (salt ++ (C ++ List.replicate 40 0)) rfl rfl 51 _ zx.1 (infoSlot lZ.out) (zeroSlot lZ.out) ?_
        intro w6 R6 U6
        have h6 := hS.put R6.out U6.out
        refine hK.out _ _ (⟨h6.o, h6.s⟩) (fun hHeldN => ?_)
        clear hHeld hK K
        have hHeld := hHeldN
        clear hHeldN
        try simp only [Act.put]
        refine wpAnyH_done (by kernel_rfl) ?_ _
        clear hHeld
        clear hS zx R6 U6
        replace h6 := Lib.hid h6
        go_wp2_with fail
        go_meet
        exact ⟨_, rfl, h6.out⟩
    ·
      replace hS := Lib.hid hS
      go_simp
      replace hS := hS.out
      replace hS := hS.allocX (by (try simp); exact rfl)
      refine hK.out _ _ (⟨hS.o, hS.s⟩) (fun hHeldN => ?_)
      clear hHeld hK K
      have hHeld := hHeldN
      clear hHeldN
      try simp only [Act.put, List.setIfInBounds_toArray, List.set_cons_zero, List.set_cons_succ]
      refine held_ready (i := 3) rfl (by kernel_rfl) (fun K hK => ?_)
      go_simp
      refine (cb1.out _).mono ?_
      rintro e wx ⟨rfl, Bx⟩
      replace hS := hS.call Bx
      clear Bx
      refine hK.out _ _ (⟨hS.o, hS.s⟩) (fun hHeldN => ?_)
      clear hHeld hK K
      have hHeld := hHeldN
      clear hHeldN
      try simp only [Act.put, List.setIfInBounds_toArray, List.set_cons_zero, List.set_cons_succ]
      refine held_ready (i := 4) rfl (by kernel_rfl) (fun K hK => ?_)
      rw [if_pos (by rfl)]
      refine wp_build_is 51 0 1 _ _ rfl _ _ rfl rfl _ bs.out ?_
      refine hK.out _ _ (⟨hS.o, hS.s⟩) (fun hHeldN => ?_)
      clear hHeld hK K
      have hHeld := hHeldN
      clear hHeldN
      try simp only [Act.put, List.setIfInBounds_toArray, List.set_cons_zero, List.set_cons_succ]
      have zx := hS.x _ rfl
      refine held_ready (i := 6) rfl (by kernel_rfl) (fun K hK => ?_)
      rw [if_pos (by rfl)]
      refine wp_store_s 51 (.tmp 7) (.tmp 14) rfl _ (salt ++ (C ++ List.replicate 40 0)) rfl rfl 51 _ zx.1 (infoSlot lZ.out) (zeroSlot lZ.out) ?_
      intro w6 R6 U6
      have h6 := hS.put R6.out U6.out
      refine hK.out _ _ (⟨h6.o, h6.s⟩) (fun hHeldN => ?_)
      clear hHeld hK K
      have hHeld := hHeldN
      clear hHeldN
      try simp only [Act.put]
      refine wpAnyH_done (by kernel_rfl) ?_ _
      clear hHeld
      clear hS zx R6 U6
      replace h6 := Lib.hid h6
      go_wp2_with fail
      go_meet
      exact ⟨_, rfl, h6.out⟩
  case rest =>
    obtain ⟨gx, rfl, hS⟩ := hcut
    have hD := hS.call (Below.refl _ _).drew
    replace hS := Lib.hid hS
    replace hD := Lib.hid hD
    go_wp2_with fail
    refine wp_region_held_drew (S := (fun w' => RowB w' w.heap.size 23 outer ∧ RowB w' (w.heap.size + 2) 22 salt)) (by kernel_rfl) (⟨hD.out.o, hD.out.s⟩) (fun hHeld => ?_)
    refine held_take (i := 0) (v := _) rfl (by kernel_rfl) (by kernel_rfl) (by kernel_rfl) (fun _ _ _ h => h) (yieldsIf_row (by rfl) rfl rfl Try.underlying23 iO (fun w' h => h.1)) (by assumption) ?_
    try simp only [Act.put, List.setIfInBounds_toArray, List.set_cons_zero, List.set_cons_succ]
    refine held_take (i := 1) (v := _) rfl (by kernel_rfl) (by kernel_rfl) (by kernel_rfl) (fun _ _ _ h => h) (yieldsIf_row (by rfl) rfl rfl Try.underlying22 iS (fun w' h => h.2)) (by assumption) ?_
    try simp only [Act.put, List.setIfInBounds_toArray, List.set_cons_zero, List.set_cons_succ]
    refine held_take (i := 3) (v := ?_) rfl (by kernel_rfl) (by kernel_rfl) (by kernel_rfl) (fun _ _ _ h => h) (Or.inl ⟨by rfl, ?_⟩) (by assumption) ?_
    rotate_left
    · intro w hSw; (try dsimp only at hSw); go_simp; try with_reducible rfl
    try simp only [Act.put, List.setIfInBounds_toArray, List.set_cons_zero, List.set_cons_succ]
    refine held_ready (i := 2) rfl (by kernel_rfl) (fun K hK => ?_)
    go_simp
    refine (cb2.out _).mono ?_
    rintro e w2 ⟨rfl, B2⟩
    have h2 := hD.out.call B2
    clear B2 hD hS
    replace h2 := Lib.hid h2
    refine hK.out _ _ (⟨h2.out.o, h2.out.s⟩) (fun hHeldN => ?_)
    clear hHeld hK K
    have hHeld := hHeldN
    clear hHeldN
    try simp only [Act.put, List.setIfInBounds_toArray, List.set_cons_zero, List.set_cons_succ]
    refine held_ready (i := 4) rfl (by kernel_rfl) (fun K hK => ?_)
    go_simp
    refine (cw.out w2 _ (row_whole h2.out.m sm.out hm.out)).mono ?_
    rintro e w4 ⟨v4, rfl, t4, B4⟩
    have h4 := h2.out.call B4
    obtain ⟨sb, so', c4, rfl, src⟩ := text_src t4 (by rw [lW.out]; decide)
    rw [lW.out]
    have x4 := h4.x gx rfl
    have th := row_there x4.1 (o := 64) (n := WK.length) (by rw [lZ.out, lW.out]; decide)
    have rS := row_setCells (o := 64) (l := WK) x4.1 (by rw [lZ.out, lW.out]; decide)
    rw [sp.out] at rS
    clear B4 h2 t4
    replace h4 := Lib.hid h4
    replace x4 := Lib.hid x4
    replace src := Lib.hid src
    replace th := Lib.hid th
    replace rS := Lib.hid rS
    refine hK.out _ _ (⟨h4.out.o, h4.out.s⟩) (fun hHeldN => ?_)
    clear hHeld hK K
    have hHeld := hHeldN
    clear hHeldN
    try simp only [Act.put, List.setIfInBounds_toArray, List.set_cons_zero, List.set_cons_succ]
    refine held_take (i := 5) (v := ?_) rfl (by kernel_rfl) (by kernel_rfl) (by kernel_rfl) (fun _ _ _ h => h) (Or.inl ⟨by rfl, ?_⟩) (by assumption) ?_
    rotate_left
    · intro w hSw; (try dsimp only at hSw); go_simp; try with_reducible rfl
    try simp only [Act.put, List.setIfInBounds_toArray, List.set_cons_zero, List.set_cons_succ]
    refine held_take (i := 6) (v := ?_) rfl (by kernel_rfl) (by kernel_rfl) (by kernel_rfl) (fun _ _ _ h => h) (Or.inl ⟨by rfl, ?_⟩) (by assumption) ?_
    rotate_left
    · intro w hSw; (try dsimp only at hSw); go_simp; try with_reducible rfl
    try simp only [Act.put, List.setIfInBounds_toArray, List.set_cons_zero, List.set_cons_succ]
    refine held_take (i := 7) (v := ?_) rfl (by kernel_rfl) (by kernel_rfl) (by kernel_rfl) (fun _ _ _ h => h) (Or.inl ⟨by rfl, ?_⟩) (by assumption) ?_
    rotate_left
    · intro w hSw; (try dsimp only at hSw); go_simp; try with_reducible rfl
    try simp only [Act.put, List.setIfInBounds_toArray, List.set_cons_zero, List.set_cons_succ]
    refine held_take (i := 8) (v := ?_) rfl (by kernel_rfl) (by kernel_rfl) (by kernel_rfl) (fun _ _ _ h => h) (Or.inl ⟨by rfl, ?_⟩) (by assumption) ?_
    rotate_left
    · intro w hSw; (try dsimp only at hSw); go_simp; try with_reducible rfl
    try simp only [Act.put, List.setIfInBounds_toArray, List.set_cons_zero, List.set_cons_succ]
    refine held_take (i := 9) (v := ?_) rfl (by kernel_rfl) (by kernel_rfl) (by kernel_rfl) (fun _ _ _ h => h) (Or.inl ⟨by rfl, ?_⟩) (by assumption) ?_
    rotate_left
    · intro w hSw; (try dsimp only at hSw); go_simp; try with_reducible rfl
    try simp only [Act.put, List.setIfInBounds_toArray, List.set_cons_zero, List.set_cons_succ]
    refine wpAnyH_done (by kernel_rfl) ?_ _
    clear hHeld
    go_wp2_with (refine wpList_copy_cells (by rfl) (.tmp 24) (.tmp 25) 25 25 rfl 5 Try.underlying25 infoU8s gx 64 40 40 40 c4 sb so' rfl rfl WK (by rw [lW.out]; decide) src.out th.out ?_)
    have h7 := h4.out.put rS.out (upd_setCells (b := gx) (u8l WK) 64 w4)
    generalize w4.setCells gx 64 (u8l WK) = w7 at *
    clear h4 x4 src th rS
    have x7 := (h7.x gx rfl).1
    have iL : (Try.prog.info? 51).map (·.size) = some (u8s SL).size := infoSlot lL.out
    replace h7 := Lib.hid h7
    replace x7 := Lib.hid x7
    replace iL := Lib.hid iL
    refine wp_load_row 51 (.tmp 7) (by rfl) gx (by rfl) 51 (u8s SL) (0, 0) _ x7.out Try.underlying51 rfl iL.out ?_
    go_wp2_with (first
      | (refine wpList_store_s (by rfl) 51 (.tmp 6) (.tmp 27) rfl (w.heap.size + 1 + 1 + 1) SL rfl rfl 51 _ h7.out.z iL.out (zeroSlot lL.out) ?_; intro w9 R9 U9))
    refine ret_row rfl rfl (w.heap.size + 1 + 1 + 1) 51 _ (0, 0) _ rfl R9.out Try.underlying51 rfl iL.out ⟨rfl, ?_⟩
    exact h7.out.low.trans (U9.out.below (fun k hk e => by omega) h7.out.low.size)
end Go.Proofs.Ytecmagenlbnchaa
namespace Go.Proofs.Ytecmagenlbnchaa
set_option maxRecDepth 100000
open Go.RowKit

theorem key_words (o s n : List Nat) : ∀ i, byt (wordsOf (byt (baseK o s n))) i < 256 := words_lt (byt_lt (baseK_small o s n)) 60
theorem open_made (outer master salt : List Nat) (hm : master.length = 32) (sm : ∀ x ∈ master, x < 256) : openE outer salt (baseK outer salt nmCheck) (wrapK outer master salt) = 0 ∧ openL outer salt (baseK outer salt nmCheck) (wrapK outer master salt) = master := by
  obtain ⟨h1, h2⟩ := back_of (key_words outer salt nmWrap) sm (show fitsB master.length 0 = true by rw [hm]; decide)
  have e : openE outer salt (baseK outer salt nmCheck) (wrapK outer master salt) = 0 := by
    unfold openE wrapK
    rw [if_pos (beq_self_eq_true _), if_pos h1]
  refine ⟨e, ?_⟩
  unfold openL
  rw [if_pos e]
  exact h2
theorem open_other {outer salt C WR : List Nat} (h : (baseK outer salt nmCheck == C) = false) : openE outer salt C WR = 50 ∧ openL outer salt C WR = List.replicate 32 0 := by
  have e : openE outer salt C WR = 50 := by
    unfold openE
    rw [if_neg (by rw [h]; decide)]
  refine ⟨e, ?_⟩
  unfold openL
  rw [if_neg (by rw [e]; decide)]
theorem wrapK_small {outer master salt : List Nat} (sm : ∀ x ∈ master, x < 256) : ∀ x ∈ wrapK outer master salt, x < 256 := bytesOf_lt fun _ _ => wrapTo_lt (key_words outer salt nmWrap) (mark_lt sm) _ _ _
theorem beq_turn {a b : List Nat} (h : (a == b) = false) : (b == a) = false := by
  rw [beq_eq_false_iff_ne] at h ⊢
  exact fun e => h e.symm
theorem cmp32 {a b : List Nat} (ha : ∀ x ∈ a, x < 256) (hb : ∀ x ∈ b, x < 256) (la : a.length = 32) (lb : b.length = 32) (x : World) : (Op.equalIn 10000 23 (.agg (u8s a)) (.agg (u8s b))).run Try.prog x = .ok (a == b) x :=
  run_equal_arr (P := Try.prog) Try.underlying23 Try.underlying5 (by kernel_rfl) ha hb la lb x

theorem slotL_eq (o m s : List Nat) : slotL o m s = s ++ (baseK o s nmCheck ++ wrapK o m s) := rfl
set_option maxHeartbeats 4000000 in
set_option maxRecDepth 100000 in
theorem alive21_of (w : World) (k1 k2 k3 : List Nat) (l1 : k1.length = 32) (l2 : k2.length = 32) (l3 : k3.length = 32) (s1 : ∀ x ∈ k1, x < 256) (s2 : ∀ x ∈ k2, x < 256) (s3 : ∀ x ∈ k3, x < 256)
    (ne : (baseK k1 k3 nmCheck == baseK k2 k3 nmCheck) = false) (b1 : Try.prog.built 23 [(0, .int .u8 1)] = some (u8s k1)) (b2 : Try.prog.built 23 [(0, .int .u8 2)] = some (u8s k2)) (b3 : Try.prog.built 22 [(0, .int .u8 3)] = some (u8s k3)) :
    Calls Try.prog 24 #[] w fun e w' => e = .returned (.bool true) ∧ Below w.heap.size w w' := by
  have cm := Lib.hid (make_any w k1 k2 k3 l1 s1 l2 s2 l3 s3)
  have eS := slotL_eq k1 k2 k3
  have lS := slotL_length (outer := k1) l2 l3
  have co1 := fun wx => open_any wx k1 k3 (baseK k1 k3 nmCheck) (wrapK k1 k2 k3) l1 s1 l3 s3 (baseK_length _ _ _) (baseK_small _ _ _) (wrapK_length l2) (wrapK_small s2)
  have co2 := fun wx => open_any wx k2 k3 (baseK k1 k3 nmCheck) (wrapK k1 k2 k3) l2 s2 l3 s3 (baseK_length _ _ _) (baseK_small _ _ _) (wrapK_length l2) (wrapK_small s2)
  obtain ⟨m1, m2⟩ := open_made k1 k2 k3 l2 s2
  obtain ⟨n1, n2⟩ := open_other (WR := wrapK k1 k2 k3) (beq_turn ne)
  rw [m1, m2, ← eS] at co1
  rw [n1, n2, ← eS] at co2
  clear m1 m2 n1 n2 eS ne
  have q1 := fun (x : World) => cmp32 s2 s2 l2 l2 x
  simp only [beq_self_eq_true] at q1
  have iS := infoSlot lS
  have i2 := infoKey l2
  generalize slotL k1 k2 k3 = SL at *
  replace s1 := Lib.hid s1
  replace s2 := Lib.hid s2
  replace s3 := Lib.hid s3
  replace l1 := Lib.hid l1
  replace l2 := Lib.hid l2
  replace l3 := Lib.hid l3
  replace co1 := Lib.hid co1
  replace co2 := Lib.hid co2
  replace lS := Lib.hid lS
  replace iS := Lib.hid iS
  replace i2 := Lib.hid i2
  replace b1 := Lib.hid b1
  replace b2 := Lib.hid b2
  replace b3 := Lib.hid b3
  go_enter Try.func24, Try.ntmps24
  go_wp2_with (first
    | refine wpList_build1 (by rfl) 23 0 (.int .u8 1) rfl (u8s k1) b1.out ?_
    | refine wpList_build1 (by rfl) 23 0 (.int .u8 2) rfl (u8s k2) b2.out ?_
    | refine wpList_build1 (by rfl) 22 0 (.int .u8 3) rfl (u8s k3) b3.out ?_)
  refine cm.out.mono ?_
  rintro e w1 ⟨rfl, B1⟩
  clear cm
  replace B1 := Lib.hid B1
  go_wp2_with (first
    | refine wpList_build1 (by rfl) 23 0 (.int .u8 1) rfl (u8s k1) b1.out ?_
    | (refine wpList_store_n (by rfl) 51 (.tmp 1) (.tmp 15) rfl SL rfl rfl iS.out (zeroSlot lS.out) ?_; intro w2 R2 B2)
    | refine wpList_load_b (by rfl) 51 (.tmp 1) rfl w1.heap.size rfl 51 SL R2.out _ Try.underlying51 rfl iS.out ?_)
  have L2 := Lib.hid (B1.out.trans (B2.out.mono B1.out.size))
  refine (co1.out _).mono ?_
  rintro e w3 ⟨rfl, B3⟩
  have R3 := R2.out.below B3 R2.out.lt
  have L3 := L2.out.trans (B3.mono L2.out.size)
  clear B1 B2 B3 R2 L2 co1
  replace R3 := Lib.hid R3
  replace L3 := Lib.hid L3
  have z2 : (u8s (List.replicate 32 0)).size = (u8s k2).size := by rw [size_u8s, size_u8s, l2.out]; simp
  have z0 := infoKey (l := List.replicate 32 0) (by simp)
  replace z2 := Lib.hid z2
  replace z0 := Lib.hid z0
  go_wp2_with (first
    | refine wpList_build1 (by rfl) 23 0 (.int .u8 2) rfl (u8s k2) b2.out ?_
    | (refine wpList_store_n (by rfl) 23 (.tmp 2) (.tmp 20) rfl k2 rfl rfl i2.out z2.out ?_; intro w4 R4 B4; have S4 := Lib.hid (R3.out.below B4.out R3.out.lt))
    | refine wpList_load_b (by rfl) 51 (.tmp 1) rfl w1.heap.size rfl 51 SL S4.out _ Try.underlying51 rfl iS.out ?_)
  have L4 := Lib.hid (L3.out.trans (B4.out.mono L3.out.size))
  refine (co2.out _).mono ?_
  rintro e w5 ⟨rfl, B5⟩
  have R5 := R4.out.below B5 R4.out.lt
  have L5 := L4.out.trans (B5.mono L4.out.size)
  clear R3 B4 S4 L3 R4 L4 B5 co2
  replace R5 := Lib.hid R5
  replace L5 := Lib.hid L5
  go_wp2_with (first
    | (refine wpList_store_n (by rfl) 23 (.tmp 4) (.tmp 26) rfl (List.replicate 32 0) rfl rfl z0.out rfl ?_; intro w6 R6 B6))
  have R6' := R5.out.below B6.out R5.out.lt
  have L6 := L5.out.trans (B6.out.mono L5.out.size)
  have cs : Calls Try.prog 27 #[.int .u64 1, .int .u64 2] w6 fun e w' => e = .returned (.tuple #[.int .u64 1099511627778, .int .i64 0]) ∧ w6 = w' := stamp_ok w6 1 2 (by decide) (by decide)
  have cc : Calls Try.prog 18 #[.int .u64 1] w6 fun x w' => ∃ b, x = .returned (.tuple #[.pointer (some ⟨b, 0, none⟩), .int .i64 0]) ∧ w6.heap.size ≤ b ∧ CountAt w' b 1 0 ∧ Below w6.heap.size w6 w' := count_ok w6 1 (by decide)
  replace R6' := Lib.hid R6'
  replace L6 := Lib.hid L6
  replace cc := Lib.hid cc
  clear R5 L5 B6 R6
  refine cs.mono ?_
  rintro e _ ⟨rfl, rfl⟩
  clear cs
  go_wp2_with fail
  refine cc.out.mono ?_
  rintro e w7 ⟨b, rfl, hb, C7, B7⟩
  have R7 := R6'.out.below B7 R6'.out.lt
  have L7 := L6.out.trans (B7.mono L6.out.size)
  have hbw : w.heap.size ≤ b := Nat.le_trans L6.out.size hb
  have hbm : w3.heap.size ≠ b := by have := R6'.out.lt; omega
  have cn : Calls Try.prog 25 #[.pointer (some ⟨b, 0, none⟩)] w7 fun x w' => x = .returned (.tuple #[.int .u64 1099511627777, .int .i64 0]) ∧ CountAt w' b 1 1 ∧ Upd (fun i => i = b) w7 w' := next_any w7 b 1 0 (by decide) (by decide) C7
  replace R7 := Lib.hid R7
  replace L7 := Lib.hid L7
  replace cn := Lib.hid cn
  replace hb := Lib.hid hb
  replace hbw := Lib.hid hbw
  replace hbm := Lib.hid hbm
  clear cc R6' L6 C7 B7
  go_wp2_with fail
  refine cn.out.mono ?_
  rintro e w8 ⟨rfl, -, U8⟩
  have R8 := R7.out.other (U8.block _ R7.out.lt hbm.out)
  have L8 := L7.out.trans (U8.below (fun k hk e => by have := hbw.out; omega) L7.out.size)
  replace R8 := Lib.hid R8
  replace L8 := Lib.hid L8
  clear cn R7 L7 U8
  go_wp2_with (first
    | refine wpList_build1 (by rfl) 23 0 (.int .u8 2) rfl (u8s k2) b2.out ?_
    | refine wpList_load_b (by rfl) 23 (.tmp 2) rfl w3.heap.size rfl 23 k2 R8.out _ Try.underlying23 rfl i2.out ?_)
  go_ret
  exact ⟨rfl, L8.out⟩
theorem alive21 (w : World) : Calls Try.prog 24 #[] w fun e w' => e = .returned (.bool true) ∧ Below w.heap.size w w' :=
  alive21_of w (key1 1) (key1 2) (key1 3) (key1_length 1) (key1_length 2) (key1_length 3) (key1_small (show 1 < 256 by decide)) (key1_small (show 2 < 256 by decide)) (key1_small (show 3 < 256 by decide)) alive_ne built_key1 built_key2 built_key3
end Go.Proofs.Ytecmagenlbnchaa
namespace Go.Proofs.Ytecmagenlbnchaa
set_option maxRecDepth 100000
open Go.RowKit

theorem beq_cast (a c : Nat) : ((a : Int) == (c : Int)) = decide (a = c) := by
  rw [Bool.eq_iff_iff, beq_iff_eq, decide_eq_true_iff]; omega
set_option maxHeartbeats 4000000 in
set_option maxRecDepth 100000 in
theorem parts_law (w : World) (a b c d s : Nat) (ha : a < 18446744073709551616) (hb : b < 18446744073709551616) (hc : c < 18446744073709551616) (hd : d < 18446744073709551616) (hs : s < 18446744073709551616) :
    Calls Try.prog 10 #[.int .u64 (a : Int), .int .u64 (b : Int), .int .u64 (c : Int), .int .u64 (d : Int), .int .u64 (s : Int)] w fun e w' => e = .returned (.bool true) ∧ Below w.heap.size w w' := by
  have c1 := stamp_any w a b ha hb
  have c2 := stamp_any w c d hc hd
  have c3 := parts_any w s hs
  have c4 := stamp_ok w (s / 1099511627776) (s % 1099511627776) (by omega) (by omega)
  rw [stamp_of s] at c4
  have ca := alive21 w
  have hx : stampV a b < 18446744073709551616 := by
    unfold stampV
    split
    · rename_i h; exact stamp_lt h.1 h.2
    · decide
  have c5 := parts_any w (stampV a b) hx
  by_cases h1 : a < 16777216 ∧ b < 1099511627776
  · have p1 : stampE a b = 0 := if_pos h1
    have v1 : stampV a b = stampOf a b := if_pos h1
    obtain ⟨q1, q2⟩ := stamp_parts (e := a) h1.2
    rw [v1, q1, q2] at c5
    rw [p1, v1] at c1
    by_cases h2 : c < 16777216 ∧ d < 1099511627776
    · have p2 : stampE c d = 0 := if_pos h2
      have v2 : stampV c d = stampOf c d := if_pos h2
      rw [p2, v2] at c2
      have hi := stamp_inj (a := a) (c := c) h1.2 h2.2
      have e3 : ((a : Int) == (c : Int)) = decide (a = c) := beq_cast a c
      have e4 : ((b : Int) == (d : Int)) = decide (b = d) := beq_cast b d
      have e5 : ((stampOf a b : Int) == (stampOf c d : Int)) = decide (a = c ∧ b = d) := by rw [beq_cast]; simp [hi]
      clear hi p1 v1 q1 q2 p2 v2 hx
      generalize stampOf a b = X at *
      generalize stampOf c d = Y at *
      generalize s / 1099511627776 = S1 at *
      generalize s % 1099511627776 = S2 at *
      replace c1 := Lib.hid c1
      replace c2 := Lib.hid c2
      replace c3 := Lib.hid c3
      replace c4 := Lib.hid c4
      replace c5 := Lib.hid c5
      replace ca := Lib.hid ca
      replace ha := Lib.hid ha
      replace hb := Lib.hid hb
      replace hc := Lib.hid hc
      replace hd := Lib.hid hd
      replace hs := Lib.hid hs
      replace h1 := Lib.hid h1
      replace h2 := Lib.hid h2
      replace e3 := Lib.hid e3
      replace e4 := Lib.hid e4
      replace e5 := Lib.hid e5
      go_enter Try.func10, Try.ntmps10
      go_wp2_with fail
      refine c1.out.mono ?_
      rintro e _ ⟨rfl, rfl⟩
      go_wp2_with fail
      refine c2.out.mono ?_
      rintro e _ ⟨rfl, rfl⟩
      go_wp2_with fail
      refine c3.out.mono ?_
      rintro e _ ⟨rfl, rfl⟩
      go_wp2_with fail
      refine c4.out.mono ?_
      rintro e _ ⟨rfl, rfl⟩
      go_wp2_with fail
      refine c5.out.mono ?_
      rintro e _ ⟨rfl, rfl⟩
      go_wp2_with (go_at_call 24; refine ca.out.mono ?_; rintro e wa ⟨rfl, Ba⟩)
      · rename_i h
        have ac : a = c := by omega
        go_ret
        refine ⟨?_, Ba⟩
        rw [e5.out, e4.out]
        simp [ac]
      · rename_i h
        have ac : a ≠ c := by omega
        go_ret
        refine ⟨?_, Ba⟩
        rw [e5.out]
        simp [ac]
    · have p2 : stampE c d = 5 := if_neg h2
      rw [p2] at c2
      clear p1 v1 q1 q2 p2 hx
      generalize stampOf a b = X at *
      generalize stampV c d = Y at *
      generalize s / 1099511627776 = S1 at *
      generalize s % 1099511627776 = S2 at *
      replace c1 := Lib.hid c1
      replace c2 := Lib.hid c2
      replace c3 := Lib.hid c3
      replace c4 := Lib.hid c4
      replace c5 := Lib.hid c5
      replace ca := Lib.hid ca
      replace ha := Lib.hid ha
      replace hb := Lib.hid hb
      replace hc := Lib.hid hc
      replace hd := Lib.hid hd
      replace hs := Lib.hid hs
      replace h1 := Lib.hid h1
      replace h2 := Lib.hid h2
      go_enter Try.func10, Try.ntmps10
      go_wp2_with fail
      refine c1.out.mono ?_
      rintro e _ ⟨rfl, rfl⟩
      go_wp2_with fail
      refine c2.out.mono ?_
      rintro e _ ⟨rfl, rfl⟩
      go_wp2_with fail
      refine c3.out.mono ?_
      rintro e _ ⟨rfl, rfl⟩
      go_wp2_with fail
      refine c4.out.mono ?_
      rintro e _ ⟨rfl, rfl⟩
      go_wp2_with fail
      refine c5.out.mono ?_
      rintro e _ ⟨rfl, rfl⟩
      go_wp2_with (go_at_call 24; refine ca.out.mono ?_; rintro e wa ⟨rfl, Ba⟩)
      go_ret
      exact ⟨rfl, Ba⟩
  · have p1 : stampE a b = 5 := if_neg h1
    have v1 : stampV a b = 0 := if_neg h1
    rw [v1] at c5
    rw [p1, v1] at c1
    clear p1 v1 hx
    generalize stampE c d = E at *
    generalize stampV c d = Y at *
    generalize s / 1099511627776 = S1 at *
    generalize s % 1099511627776 = S2 at *
    replace c1 := Lib.hid c1
    replace c2 := Lib.hid c2
    replace c3 := Lib.hid c3
    replace c4 := Lib.hid c4
    replace c5 := Lib.hid c5
    replace ca := Lib.hid ca
    replace ha := Lib.hid ha
    replace hb := Lib.hid hb
    replace hc := Lib.hid hc
    replace hd := Lib.hid hd
    replace hs := Lib.hid hs
    replace h1 := Lib.hid h1
    go_enter Try.func10, Try.ntmps10
    go_wp2_with fail
    refine c1.out.mono ?_
    rintro e _ ⟨rfl, rfl⟩
    go_wp2_with fail
    refine c2.out.mono ?_
    rintro e _ ⟨rfl, rfl⟩
    go_wp2_with fail
    refine c3.out.mono ?_
    rintro e _ ⟨rfl, rfl⟩
    go_wp2_with fail
    refine c4.out.mono ?_
    rintro e _ ⟨rfl, rfl⟩
    go_wp2_with fail
    refine c5.out.mono ?_
    rintro e _ ⟨rfl, rfl⟩
    go_wp2_with (go_at_call 24; refine ca.out.mono ?_; rintro e wa ⟨rfl, Ba⟩)
    go_ret
    exact ⟨rfl, Ba⟩
end Go.Proofs.Ytecmagenlbnchaa
namespace Go.Proofs.Ytecmagenlbnchaa
set_option maxRecDepth 100000
open Go.RowKit

set_option maxRecDepth 100000 in
theorem epoch_any (w : World) (b e c : Nat) (h : CountAt w b e c) :
    Calls Try.prog 34 #[.pointer (some ⟨b, 0, none⟩)] w fun x w' => x = .returned (.int .u64 (e : Int)) ∧ w = w' := by
  have c1 : w.cell? ⟨b, 1, none⟩ = some (.int .u64 (e : Int)) := (cell_of_row _ _ 1 _ _ _ h).trans rfl
  replace h := Lib.hid h
  go_enter Try.func34, Try.ntmps34
  go_wp2_with fail
  go_ret
  exact ⟨rfl, rfl⟩
set_option maxRecDepth 100000 in
theorem epoch_nil (w : World) :
    Calls Try.prog 34 #[.pointer none] w fun x w' => x = .returned (.int .u64 0) ∧ w = w' := by
  go_enter Try.func34, Try.ntmps34
  go_wp2_with fail
  go_ret
  exact ⟨rfl, rfl⟩
set_option maxRecDepth 100000 in
theorem rstamp_any (w : World) (e c : Nat) (he : e < 18446744073709551616) (hc : c < 18446744073709551616) :
    Calls Try.prog 33 #[.int .u64 (e : Int), .int .u64 (c : Int)] w fun x w' => x = .returned (.tuple #[.int .u64 (stampV e c : Int), .int .i64 (stampE e c)]) ∧ w = w' := by
  unfold stampV stampE
  by_cases h : e < 16777216 ∧ c < 1099511627776
  · rw [if_pos h, if_pos h]
    obtain ⟨h1, h2⟩ := h
    have d1 : decide ((e : Int) ≥ 16777216) = false := decide_eq_false (by omega)
    have d2 : decide ((c : Int) ≥ 1099511627776) = false := decide_eq_false (by omega)
    have e1 : ((stampOf e c : Nat) : Int) = 1099511627776 * (e : Int) + (c : Int) := by unfold stampOf; omega
    replace e1 := Lib.hid e1
    go_enter Try.func33, Try.ntmps33
    go_wp2_with fail
    rw [e1.out]
    go_ret2
    exact ⟨rfl, rfl⟩
  · rw [if_neg h, if_neg h]
    by_cases h1 : e < 16777216
    · have d1 : decide ((e : Int) ≥ 16777216) = false := decide_eq_false (by omega)
      have d2 : decide ((c : Int) ≥ 1099511627776) = true := decide_eq_true (by omega)
      go_enter Try.func33, Try.ntmps33
      go_wp2_with fail
      go_ret2
      exact ⟨rfl, rfl⟩
    · have d1 : decide ((e : Int) ≥ 16777216) = true := decide_eq_true (by omega)
      go_enter Try.func33, Try.ntmps33
      go_wp2_with fail
      go_ret2
      exact ⟨rfl, rfl⟩
theorem parts_int (w : World) (s : Nat) (hs : s < 18446744073709551616) :
    Calls Try.prog 26 #[.int .u64 (s : Int)] w fun e w' => e = .returned (.tuple #[.int .u64 ((s : Int) / 1099511627776), .int .u64 ((s : Int) % 1099511627776)]) ∧ w = w' := by
  have h := parts_any w s hs
  rw [show (((s / 1099511627776 : Nat)) : Int) = (s : Int) / 1099511627776 by simp, show (((s % 1099511627776 : Nat)) : Int) = (s : Int) % 1099511627776 by simp] at h
  exact h
set_option maxHeartbeats 4000000 in
set_option maxRecDepth 100000 in
theorem stamps_law (w : World) (a b s n : Nat) (ha : a < 18446744073709551616) (hb : b < 18446744073709551616) (hs : s < 18446744073709551616) (hn : n < 256) :
    Calls Try.prog 12 #[.int .u64 (a : Int), .int .u64 (b : Int), .int .u64 (s : Int), .int .u8 (n : Int)] w fun e w' => e = .returned (.bool true) ∧ Below w.heap.size w w' := by
  have c1 := stamp_any w a b ha hb
  have c2 := rstamp_any w a b ha hb
  have c3 := parts_int w s hs
  generalize stampV a b = V at *
  generalize stampE a b = E at *
  by_cases h1 : a < 16777216
  · have c4 := count_ok w a h1
    have e31 : bits .and .u8 (n : Int) 31 = ((n &&& 31 : Nat) : Int) := u8_and_nat n 31 hn (by decide)
    have l31 : n &&& 31 ≤ 31 := Nat.and_le_right
    generalize n &&& 31 = m at *
    have d1 : decide ((a : Int) ≥ 16777216) = false := decide_eq_false (by omega)
    replace c1 := Lib.hid c1
    replace c2 := Lib.hid c2
    replace c3 := Lib.hid c3
    replace c4 := Lib.hid c4
    go_enter Try.func12, Try.ntmps12
    go_wp2_with fail
    refine c1.out.mono ?_
    rintro e _ ⟨rfl, rfl⟩
    go_wp2_with fail
    refine c2.out.mono ?_
    rintro e _ ⟨rfl, rfl⟩
    go_wp2_with fail
    refine c3.out.mono ?_
    rintro e _ ⟨rfl, rfl⟩
    go_wp2_with fail
    refine c4.out.mono ?_
    rintro e w1 ⟨g, rfl, hg, C1, B1⟩
    clear c1 c2 c3 c4
    replace hg := Lib.hid hg
    replace C1 := Lib.hid C1
    replace B1 := Lib.hid B1
    go_wp2_with fail
    go_loopw [17] (fun i wr => ∃ k : Nat, k ≤ m ∧ i = .int .i64 ((k : Int) + 1) ∧ CountAt wr g a k ∧ Below w.heap.size w wr) (fun i _ => m + 1 - (intOf i).toNat)
    case atStart => exact ⟨0, Nat.zero_le _, rfl, C1.out, B1.out⟩
    case round =>
      obtain ⟨k, hk, rfl, hC, hB⟩ := hrel
      by_cases hlt : k < m
      · have cn := next_any wr g a k h1 (by omega) hC
        have e1 : ((stampOf a (k + 1) : Nat) : Int) = 1099511627776 * (a : Int) + ((k : Int) + 1) := by unfold stampOf; omega
        rw [e1] at cn
        have d2 : decide ((k : Int) + 1 ≤ (m : Int)) = true := decide_eq_true (by omega)
        replace cn := Lib.hid cn
        replace hC := Lib.hid hC
        replace hB := Lib.hid hB
        replace e1 := Lib.hid e1
        go_wp2_with fail
        refine cn.out.mono ?_
        rintro e w2 ⟨rfl, C2, U2⟩
        have B2 : Below w.heap.size w w2 := hB.out.trans (U2.below (fun i hi e => by have := hg.out; omega) hB.out.size)
        clear cn hC hB U2
        replace C2 := Lib.hid C2
        replace B2 := Lib.hid B2
        go_wp2_with fail
        go_roundw
        case rel => exact ⟨k + 1, by omega, by go_num, C2.out, B2.out⟩
        case measure => simp [intOf]; omega
      · obtain rfl : k = m := by omega
        have d2 : decide ((k : Int) + 1 ≤ (k : Int)) = false := decide_eq_false (by omega)
        replace hC := Lib.hid hC
        replace hB := Lib.hid hB
        have z0 : ∀ v : Value, (wr.alloc (.cells #[.bool false, .int .u64 0, .int .u64 0] 71)).cell? ⟨wr.heap.size, 0, none⟩ = some (.bool false) := fun v => (cell_of_row _ _ 0 _ _ _ (heap_alloc_new _ _)).trans rfl
        have z1 := z0 undef
        clear z0
        replace z1 := Lib.hid z1
        go_wp2_with fail
        refine (next_nil _).mono ?_
        rintro e _ ⟨rfl, rfl⟩
        go_wp2_with fail
        refine (next_off _ _ z1.out).mono ?_
        rintro e _ ⟨rfl, rfl⟩
        have Cz : CountAt (wr.alloc (.cells #[.bool false, .int .u64 0, .int .u64 0] 71)) g a k := (heap_alloc_old _ _ hC.out.lt).trans hC.out
        have Bz := hB.out.alloc hB.out.size (.cells #[.bool false, .int .u64 0, .int .u64 0] 71)
        replace Cz := Lib.hid Cz
        replace Bz := Lib.hid Bz
        go_wp2_with fail
        refine (alive21 _).mono ?_
        rintro e w3 ⟨rfl, B3⟩
        have C3 := Cz.out.below B3 Cz.out.lt
        have B4 := Bz.out.trans (B3.mono Bz.out.size)
        replace C3 := Lib.hid C3
        replace B4 := Lib.hid B4
        clear B3
        go_wp2_with fail
        refine (epoch_any _ _ _ _ C3.out).mono ?_
        rintro e _ ⟨rfl, rfl⟩
        go_wp2_with fail
        refine (epoch_nil _).mono ?_
        rintro e _ ⟨rfl, rfl⟩
        go_wp2_with fail
        go_ret
        exact ⟨rfl, B4.out⟩
  · have c4 := count_bad w a h1
    have ca := alive21 w
    have d1 : decide ((a : Int) ≥ 16777216) = true := decide_eq_true (by omega)
    replace c1 := Lib.hid c1
    replace c2 := Lib.hid c2
    replace c3 := Lib.hid c3
    replace c4 := Lib.hid c4
    replace ca := Lib.hid ca
    go_enter Try.func12, Try.ntmps12
    go_wp2_with fail
    refine c1.out.mono ?_
    rintro e _ ⟨rfl, rfl⟩
    go_wp2_with fail
    refine c2.out.mono ?_
    rintro e _ ⟨rfl, rfl⟩
    go_wp2_with fail
    refine c3.out.mono ?_
    rintro e _ ⟨rfl, rfl⟩
    go_wp2_with fail
    refine c4.out.mono ?_
    rintro e _ ⟨rfl, rfl⟩
    clear c1 c2 c3 c4
    go_wp2_with (go_at_call 24; refine ca.out.mono ?_; rintro e wa ⟨rfl, Ba⟩)
    go_ret
    exact ⟨rfl, Ba⟩
end Go.Proofs.Ytecmagenlbnchaa
namespace Go.Proofs.Ytecmagenlbnchaa
set_option maxRecDepth 100000
open Go.RowKit

theorem infoU64 : (Try.prog.info? 24).map (fun i => (i.zero, i.size, i.bytes)) = some (some (.int .u64 0), 1, 8) := by kernel_rfl
/-- The first k stamps of an epoch. -/
def stL (a k : Nat) : List Value := (List.range k).map fun i => .int .u64 ((stampOf a (i + 1) : Nat) : Int)
theorem length_stL (a k : Nat) : (stL a k).length = k := by simp [stL]
theorem stL_succ (a k : Nat) : stL a (k + 1) = stL a k ++ [.int .u64 ((stampOf a (k + 1) : Nat) : Int)] := by simp [stL, List.range_succ]
theorem stL_get {a k i : Nat} (h : i < k) : (stL a k)[i]? = some (.int .u64 ((stampOf a (i + 1) : Nat) : Int)) := by simp [stL, h]
theorem stamp_apart {a b i k : Nat} (hi : i < 63) (hk : k < 63) (h : a ≠ b) : stampOf a (i + 1) ≠ stampOf b (k + 1) := by unfold stampOf; omega
/-- What KeysOnce keeps. -/
structure OnceSt (w wr : World) (base bx b_y a b kx ky kl ko : Nat) (vl vo : Value) : Prop where
  x : CountAt wr bx a kx
  y : CountAt wr b_y b ky
  l : Own wr base 24 vl (stL a kl)
  o : Own wr base 24 vo (stL b ko)
  ap : ∀ g, vl.ownBlock = some g → vo.ownBlock ≠ some g
  low : Below w.heap.size w wr
  hx : w.heap.size ≤ bx ∧ bx < base
  hy : w.heap.size ≤ b_y ∧ b_y < base
  xy : bx ≠ b_y
  hb : base ≤ wr.heap.size
section
variable {w wr w2 : World} {base bx b_y a b kx ky kl ko : Nat} {l o l2 : Value}
theorem OnceSt.upX {kx' : Nat} (h : OnceSt w wr base bx b_y a b kx ky kl ko l o) (C : CountAt w2 bx a kx') (U : Upd (fun i => i = bx) wr w2) : OnceSt w w2 base bx b_y a b kx' ky kl ko l o :=
  ⟨C, (U.block _ h.y.lt (fun e => h.xy e.symm)).trans h.y, h.l.other fun k hk => U.block k (h.l.lt k hk).2 (by have := (h.l.lt k hk).1; have := h.hx.2; omega), h.o.other fun k hk => U.block k (h.o.lt k hk).2 (by have := (h.o.lt k hk).1; have := h.hx.2; omega), h.ap, h.low.trans (U.below (fun i hi e => by have := h.hx.1; omega) h.low.size), h.hx, h.hy, h.xy, Nat.le_trans h.hb U.size⟩
theorem OnceSt.upY {ky' : Nat} (h : OnceSt w wr base bx b_y a b kx ky kl ko l o) (C : CountAt w2 b_y b ky') (U : Upd (fun i => i = b_y) wr w2) : OnceSt w w2 base bx b_y a b kx ky' kl ko l o :=
  ⟨(U.block _ h.x.lt (fun e => h.xy e)).trans h.x, C, h.l.other fun k hk => U.block k (h.l.lt k hk).2 (by have := (h.l.lt k hk).1; have := h.hy.2; omega), h.o.other fun k hk => U.block k (h.o.lt k hk).2 (by have := (h.o.lt k hk).1; have := h.hy.2; omega), h.ap, h.low.trans (U.below (fun i hi e => by have := h.hy.1; omega) h.low.size), h.hx, h.hy, h.xy, Nat.le_trans h.hb U.size⟩
theorem OnceSt.alloc (h : OnceSt w wr base bx b_y a b kx ky kl ko l o) (ob : Obj) : OnceSt w (wr.alloc ob) base bx b_y a b kx ky kl ko l o :=
  ⟨(heap_alloc_old _ _ h.x.lt).trans h.x, (heap_alloc_old _ _ h.y.lt).trans h.y, h.l.alloc ob, h.o.alloc ob, h.ap, h.low.alloc h.low.size ob, h.hx, h.hy, h.xy, by have := h.hb; simp; omega⟩
theorem OnceSt.drewN (h : OnceSt w wr base bx b_y a b kx ky kl ko l o) (n : Nat) : OnceSt w (wr.drewN n) base bx b_y a b kx ky kl ko l o :=
  ⟨h.x, h.y, h.l, h.o, h.ap, ⟨h.low.os, h.low.tape, h.low.output, h.low.size, h.low.block⟩, h.hx, h.hy, h.xy, h.hb⟩
theorem OnceSt.growL {kl' : Nat} (h : OnceSt w wr base bx b_y a b kx ky kl ko l o) (O : Own w2 base 24 l2 (stL a kl')) (G : wr.grownBy w2 l.ownBlock) (B : l2.ownBlock = l.ownBlock ∨ l2.ownBlock = some wr.heap.size) : OnceSt w w2 base bx b_y a b kx ky kl' ko l2 o := by
  have low := fun k (e : l.ownBlock = some k) => h.l.lt k e
  have bl : ∀ k, k < base → wr.heap[k]? = w2.heap[k]? := fun k hk => (G.block k (by have := h.hb; omega) fun e => by have := (low k e.symm).1; omega).symm
  refine ⟨(bl _ h.hx.2).symm.trans h.x, (bl _ h.hy.2).symm.trans h.y, O, h.o.other fun k hk => G.block k (h.o.lt k hk).2 fun e => h.ap k e.symm hk, fun g hg hog => ?_, h.low.trans ⟨G.os, G.tape, G.output, G.size, fun k hk => (bl k (by have := h.hx; omega)).symm⟩, h.hx, h.hy, h.xy, Nat.le_trans h.hb G.size⟩
  rcases B with B | B
  · exact h.ap g (B ▸ hg) hog
  · have := (h.o.lt g hog).2
    rw [hg] at B
    cases B
    omega
theorem OnceSt.growO {ko' : Nat} (h : OnceSt w wr base bx b_y a b kx ky kl ko l o) (O : Own w2 base 24 l2 (stL b ko')) (G : wr.grownBy w2 o.ownBlock) (B : l2.ownBlock = o.ownBlock ∨ l2.ownBlock = some wr.heap.size) : OnceSt w w2 base bx b_y a b kx ky kl ko' l l2 := by
  have low := fun k (e : o.ownBlock = some k) => h.o.lt k e
  have bl : ∀ k, k < base → wr.heap[k]? = w2.heap[k]? := fun k hk => (G.block k (by have := h.hb; omega) fun e => by have := (low k e.symm).1; omega).symm
  refine ⟨(bl _ h.hx.2).symm.trans h.x, (bl _ h.hy.2).symm.trans h.y, h.l.other fun k hk => G.block k (h.l.lt k hk).2 fun e => h.ap k hk e.symm, O, fun g hg hog => ?_, h.low.trans ⟨G.os, G.tape, G.output, G.size, fun k hk => (bl k (by have := h.hx; omega)).symm⟩, h.hx, h.hy, h.xy, Nat.le_trans h.hb G.size⟩
  rcases B with B | B
  · exact h.ap g hg (B ▸ hog)
  · have := (h.l.lt g hg).2
    rw [hog] at B
    cases B
    omega
end
theorem own_at {w : World} {base a k : Nat} {v : Value} (h : Own w base 24 v (stL a k)) : ∃ ao cap, v = .slice ao k cap ∧ ∀ i, i < k → ∃ g, ao = some ⟨g, 0, none⟩ ∧ w.cell? ⟨g, i, none⟩ = some (.int .u64 ((stampOf a (i + 1) : Nat) : Int)) := by
  obtain ⟨ao, cap, e, _, _, _, _, hc⟩ := h.form
  rw [length_stL] at e
  refine ⟨ao, cap, e, fun i hi => ?_⟩
  obtain ⟨g, e1, e2, _⟩ := hc i _ (stL_get hi)
  exact ⟨g, e1, e2⟩
theorem count_some (w : World) (e : Nat) : ∃ E : Int, Calls Try.prog 18 #[.int .u64 (e : Int)] w fun x w' => ∃ p, x = .returned (.tuple #[.pointer p, .int .i64 E]) ∧ Below w.heap.size w w' := by
  by_cases h : e < 16777216
  · exact ⟨0, (count_ok w e h).mono fun x w' ⟨b, h1, _, _, h2⟩ => ⟨_, h1, h2⟩⟩
  · exact ⟨5, (count_bad w e h).mono fun x w' ⟨h1, h2⟩ => ⟨_, h1, h2 ▸ Below.refl _ _⟩⟩

set_option maxHeartbeats 4000000 in
set_option maxRecDepth 100000 in
theorem once_law (w : World) (a b n m : Nat) (hn : n < 256) (hm : m < 256) :
    Calls Try.prog 9 #[.int .u64 (a : Int), .int .u64 (b : Int), .int .u8 (n : Int), .int .u8 (m : Int)] w fun e w' => e = .returned (.bool true) ∧ Below w.heap.size w w' := by
  have ca := Lib.hid (fun wx => alive21 wx)
  by_cases ha : a < 16777216
  · have c1 := Lib.hid (fun wx => count_ok wx a ha)
    by_cases hb : b < 16777216
    · have c2 := Lib.hid (fun wx => count_ok wx b hb)
      have e1 : bits .and .u8 (n : Int) 63 = ((n &&& 63 : Nat) : Int) := u8_and_nat n 63 hn (by decide)
      have l1 : n &&& 63 ≤ 63 := Nat.and_le_right
      have e2 : bits .and .u8 (m : Int) 63 = ((m &&& 63 : Nat) : Int) := u8_and_nat m 63 hm (by decide)
      have l2 : m &&& 63 ≤ 63 := Nat.and_le_right
      generalize n &&& 63 = N at *
      generalize m &&& 63 = M at *
      replace e2 := Lib.hid e2
      go_enter Try.func9, Try.ntmps9
      go_wp2_with fail
      refine (c1.out _).mono ?_
      rintro e w1 ⟨bx, rfl, hx, C1, B1⟩
      replace hx := Lib.hid hx
      replace C1 := Lib.hid C1
      replace B1 := Lib.hid B1
      go_wp2_with fail
      refine (c2.out _).mono ?_
      rintro e w2 ⟨b_y, rfl, hy, C2, B2⟩
      have st : OnceSt w w2 w2.heap.size bx b_y a b 0 0 0 0 (.slice none 0 0) (.slice none 0 0) :=
        ⟨C1.out.below B2 C1.out.lt, C2, Own.nil _ _ _, Own.nil _ _ _, fun g e => by simp [Value.ownBlock] at e, B1.out.trans (B2.mono B1.out.size), ⟨hx.out, Nat.lt_of_lt_of_le C1.out.lt B2.size⟩, ⟨Nat.le_trans B1.out.size hy, C2.lt⟩, fun e => by have := C1.out.lt; omega, Nat.le_refl _⟩
      generalize w2.heap.size = base at *
      clear C1 B1 hx C2 B2 hy c1 c2
      replace st := Lib.hid st
      go_wp2_with fail
      go_loopw [13, 15] (fun l i wr => ∃ k : Nat, k ≤ N ∧ i = .int .i64 k ∧ OnceSt w wr base bx b_y a b k 0 k 0 l (.slice none 0 0)) (fun _ i _ => N - (intOf i).toNat)
      case atStart => exact ⟨0, Nat.zero_le _, rfl, st.out⟩
      case round =>
        obtain ⟨k, hk, rfl, h⟩ := hrel
        clear st
        by_cases hlt : k < N
        · have cn := Lib.hid (fun wx hC => next_any wx bx a k ha (by omega) hC)
          have s1 := stamp_lt (e := a) (c := k + 1) ha (by omega)
          have cp := Lib.hid (fun wx => parts_any wx (stampOf a (k + 1)) s1)
          obtain ⟨p1, -⟩ := stamp_parts (e := a) (c := k + 1) (by omega)
          rw [p1] at cp
          clear p1 s1
          have es := stL_succ a k
          have ls := length_stL a k
          replace h := Lib.hid h
          replace es := Lib.hid es
          replace ls := Lib.hid ls
          go_wp2_with fail
          refine (cn.out _ h.out.x).mono ?_
          rintro e w2 ⟨rfl, C2, U2⟩
          have h2 := h.out.upX C2 U2
          clear h C2 U2 cn
          replace h2 := Lib.hid h2
          go_wp2_with fail
          refine (cp.out _).mono ?_
          rintro e _ ⟨rfl, rfl⟩
          clear cp
          by_cases hz : k = 0
          · subst hz
            simp only [show ((0 : Nat) : Int) = 0 from rfl]
            generalize stampOf a (0 + 1) = S at *
            go_wp2_with (at_builtin; refine wpList_append_x rfl (.tmp 79) (.tmp 81) 34 rfl 24 Try.underlying34 (.int .u64 0) 8 infoU64 rfl (by decide) base w2 u13 (stL a 0) rfl (h2.out.alloc _).l ((Below.refl _ _).alloc (by have := h2.out.hb; omega) _) (by have := h2.out.hb; simp; omega) (some ⟨w2.heap.size, 0, none⟩) 1 1 [.int .u64 (S : Int)] rfl rfl (fun e => by simp at e) one_cell (by intro u hu; simp at hu; subst hu; rfl) (by rw [ls.out]; omega) ?_; intro v3 w3 O3 B3 G3 hb3)
            have h3 := (h2.out.alloc _).growL (es.out ▸ O3.out) G3.out hb3.out
            clear O3 B3 G3 hb3
            replace h3 := Lib.hid h3
            go_roundw
            case rel => exact ⟨0 + 1, by omega, by go_num, h3.out⟩
            case measure => simp [intOf]; omega
          · obtain ⟨j, rfl⟩ : ∃ j, k = j + 1 := ⟨k - 1, by omega⟩
            clear hz
            obtain ⟨ao, cap, eu, hc⟩ := own_at h2.out.l
            obtain ⟨g, rfl, hcell⟩ := hc j (by omega)
            subst eu
            clear hc
            have d1 : decide ((stampOf a (j + 1 + 1) : Int) ≤ (stampOf a (j + 1) : Int)) = false := decide_eq_false (by unfold stampOf; omega)
            have d2 : decide (stampOf a (j + 1 + 1) ≤ stampOf a (j + 1)) = false := decide_eq_false (by unfold stampOf; omega)
            generalize stampOf a (j + 1 + 1) = S at *
            generalize stampOf a (j + 1) = S1 at *
            have ej : ((j + 1 : Nat) : Int) = (j : Int) + 1 := by omega
            rw [ej]
            replace ej := Lib.hid ej
            go_wp2_with (at_builtin; refine wpList_append_x rfl (.tmp 79) (.tmp 81) 34 rfl 24 Try.underlying34 (.int .u64 0) 8 infoU64 rfl (by decide) base w2 (.slice (some ⟨g, 0, none⟩) (j + 1) cap) (stL a (j + 1)) rfl (h2.out.alloc _).l ((Below.refl _ _).alloc (by have := h2.out.hb; omega) _) (by have := h2.out.hb; simp; omega) (some ⟨w2.heap.size, 0, none⟩) 1 1 [.int .u64 (S : Int)] rfl rfl (fun e => by simp at e) one_cell (by intro u hu; simp at hu; subst hu; rfl) (by rw [ls.out]; omega) ?_; intro v3 w3 O3 B3 G3 hb3)
            have h3 := (h2.out.alloc _).growL (es.out ▸ O3.out) G3.out hb3.out
            clear O3 B3 G3 hb3
            replace h3 := Lib.hid h3
            go_roundw
            case rel => exact ⟨j + 1 + 1, by omega, by go_num, h3.out⟩
            case measure => simp [intOf]; omega
        · obtain rfl : k = N := by omega
          clear hk hlt
          replace h := Lib.hid h
          go_wp2_with fail
          replace e2 := e2.out
          clear e1
          obtain ⟨wp, rfl⟩ : ∃ wp : World, wp = wr := ⟨_, rfl⟩
          obtain ⟨k1, hk1⟩ : ∃ k1, k1 = k := ⟨_, rfl⟩
          go_loopw [14, 20] (fun o i wr => ∃ q : Nat, q ≤ M ∧ i = .int .i64 q ∧ OnceSt w wr base bx b_y a b k q k q u13 o) (fun _ i _ => M - (intOf i).toNat)
          case atStart => exact ⟨0, Nat.zero_le _, rfl, h.out⟩
          case round =>
            obtain ⟨q, hq, rfl, h⟩ := hrel
            by_cases hlt : q < M
            · have cn := Lib.hid (fun wx hC => next_any wx b_y b q hb (by omega) hC)
              have es := stL_succ b q
              have ls := length_stL b q
              generalize stampOf b (q + 1) = S at *
              replace h := Lib.hid h
              replace es := Lib.hid es
              replace ls := Lib.hid ls
              go_wp2_with fail
              refine (cn.out _ h.out.y).mono ?_
              rintro e w2 ⟨rfl, C2, U2⟩
              have h2 := h.out.upY C2 U2
              clear h C2 U2 cn
              replace h2 := Lib.hid h2
              go_wp2_with (at_builtin; refine wpList_append_x rfl (.tmp 95) (.tmp 97) 34 rfl 24 Try.underlying34 (.int .u64 0) 8 infoU64 rfl (by decide) base w2 u14 (stL b q) rfl (h2.out.alloc _).o ((Below.refl _ _).alloc (by have := h2.out.hb; omega) _) (by have := h2.out.hb; simp; omega) (some ⟨w2.heap.size, 0, none⟩) 1 1 [.int .u64 (S : Int)] rfl rfl (fun e => by simp at e) one_cell (by intro u hu; simp at hu; subst hu; rfl) (by rw [ls.out]; omega) ?_; intro v3 w3 O3 B3 G3 hb3)
              have h3 := (h2.out.alloc _).growO (es.out ▸ O3.out) G3.out hb3.out
              clear O3 B3 G3 hb3
              replace h3 := Lib.hid h3
              go_roundw
              case rel => exact ⟨q + 1, by omega, by go_num, h3.out⟩
              case measure => simp [intOf]; omega
            · obtain rfl : q = M := by omega
              clear hq hlt
              obtain ⟨al, cl, el, hl⟩ := own_at h.l
              obtain ⟨ol, co, eo, ho⟩ := own_at h.o
              subst el; subst eo
              replace h := Lib.hid h
              replace hl := Lib.hid hl
              replace ho := Lib.hid ho
              go_wp2_with fail
              obtain ⟨wo, rfl⟩ : ∃ wo : World, wo = wr := ⟨_, rfl⟩
              by_cases hab : a = b
              · subst hab
                go_loopw [23] (fun i wr => i = .int .i64 ((0 : Nat) : Int) ∧ wr = wo) (fun i _ => k - (intOf i).toNat)
                case atStart => exact ⟨rfl, rfl⟩
                case round =>
                  obtain ⟨rfl, rfl⟩ := hrel
                  go_wp2_with fail
                  all_goals
                    refine (ca.out _).mono ?_
                    rintro e w3 ⟨rfl, B3⟩
                    have B4 := h.out.low.trans (B3.mono h.out.low.size)
                    replace B4 := Lib.hid B4
                    go_wp2_with fail
                    go_ret
                    exact ⟨rfl, B4.out⟩
              · have hne : ((a : Int) == (b : Int)) = false := beq_eq_false_iff_ne.2 (by omega)
                go_loopw [23] (fun i wr => ∃ i' : Nat, i' ≤ k ∧ i = .int .i64 i' ∧ ∃ d, wr = wo.drewN d) (fun i _ => k - (intOf i).toNat)
                case atStart => exact ⟨0, Nat.zero_le _, rfl, 0, rfl⟩
                case round =>
                  obtain ⟨i', hi, rfl, d, rfl⟩ := hrel
                  by_cases hlt : i' < k
                  · obtain ⟨g1, rfl, hc1⟩ := hl.out i' hlt
                    replace hc1 := Lib.hid hc1
                    go_wp2_with fail
                    go_loopw [24] (fun j wr => ∃ j' : Nat, j' ≤ q ∧ j = .int .i64 j' ∧ ∃ d, wr = wo.drewN d) (fun j _ => q - (intOf j).toNat)
                    case atStart => exact ⟨0, Nat.zero_le _, rfl, d, rfl⟩
                    case round =>
                      obtain ⟨j', hj, rfl, d2, rfl⟩ := hrel
                      by_cases hlt2 : j' < q
                      · obtain ⟨g2, rfl, hc2⟩ := ho.out j' hlt2
                        have hap := stamp_apart (i := i') (k := j') (by omega) (by omega) hab
                        have f1 : (wo.drewN d2).cell? ⟨g1, i', none⟩ = some (.int .u64 ((stampOf a (i' + 1) : Nat) : Int)) := hc1.out
                        have f2 : (wo.drewN d2).cell? ⟨g2, j', none⟩ = some (.int .u64 ((stampOf b (j' + 1) : Nat) : Int)) := hc2
                        clear hc2
                        generalize stampOf a (i' + 1) = X at *
                        generalize stampOf b (j' + 1) = Y at *
                        have hb : ((X : Int) == (Y : Int)) = false := beq_eq_false_iff_ne.2 (by omega)
                        go_wp2_with fail
                        refine wp_region_held_drew (S := (fun w' => w'.cell? ⟨g1, i', none⟩ = some (.int .u64 (X : Int)) ∧ w'.cell? ⟨g2, j', none⟩ = some (.int .u64 (Y : Int)))) (by kernel_rfl) (⟨f1, f2⟩) (fun hHeld => ?_)
                        refine held_take (i := 0) (v := ?_) rfl (by kernel_rfl) (by kernel_rfl) (by kernel_rfl) (fun _ _ _ h => h) (Or.inl ⟨by rfl, ?_⟩) (by assumption) ?_
                        rotate_left
                        · intro w hSw; (try dsimp only at hSw); go_simp; try with_reducible rfl
                        try simp only [Act.put, List.setIfInBounds_toArray, List.set_cons_zero, List.set_cons_succ]
                        refine held_take (i := 1) (v := ?_) rfl (by kernel_rfl) (by kernel_rfl) (by kernel_rfl) (fun _ _ _ h => h) (Or.inl ⟨by rfl, ?_⟩) (by assumption) ?_
                        rotate_left
                        · intro w hSw; (try dsimp only at hSw); go_simp; try with_reducible rfl
                        try simp only [Act.put, List.setIfInBounds_toArray, List.set_cons_zero, List.set_cons_succ]
                        refine held_take (i := 2) (v := ?_) rfl (by kernel_rfl) (by kernel_rfl) (by kernel_rfl) (fun _ _ _ h => h) (Or.inl ⟨by rfl, ?_⟩) (by assumption) ?_
                        rotate_left
                        · intro w hSw; (try dsimp only at hSw); go_simp; try with_reducible rfl
                        try simp only [Act.put, List.setIfInBounds_toArray, List.set_cons_zero, List.set_cons_succ]
                        refine held_take (i := 3) (v := ?_) rfl (by kernel_rfl) (by kernel_rfl) (by kernel_rfl) (fun _ _ _ h => h) (Or.inl ⟨by rfl, ?_⟩) (by assumption) ?_
                        rotate_left
                        · intro w hSw; (try dsimp only at hSw); go_simp; try with_reducible rfl
                        try simp only [Act.put, List.setIfInBounds_toArray, List.set_cons_zero, List.set_cons_succ]
                        refine held_take (i := 4) (v := ?_) rfl (by kernel_rfl) (by kernel_rfl) (by kernel_rfl) (fun _ _ _ h => h) (Or.inl ⟨by rfl, ?_⟩) (by assumption) ?_
                        rotate_left
                        · intro w hSw; (try dsimp only at hSw); go_simp; try with_reducible rfl
                        try simp only [Act.put, List.setIfInBounds_toArray, List.set_cons_zero, List.set_cons_succ]
                        refine held_take (i := 5) (v := ?_) rfl (by kernel_rfl) (by kernel_rfl) (by kernel_rfl) (fun _ _ _ h => h) (Or.inl ⟨by rfl, ?_⟩) (by assumption) ?_
                        rotate_left
                        · intro w hSw; (try dsimp only at hSw); go_simp; try with_reducible rfl
                        try simp only [Act.put, List.setIfInBounds_toArray, List.set_cons_zero, List.set_cons_succ]
                        refine held_take (i := 6) (v := ?_) rfl (by kernel_rfl) (by kernel_rfl) (by kernel_rfl) (fun _ _ _ h => h) (Or.inl ⟨by rfl, ?_⟩) (by assumption) ?_
                        rotate_left
                        · intro w hSw; (try dsimp only at hSw); go_simp; try with_reducible rfl
                        try simp only [Act.put, List.setIfInBounds_toArray, List.set_cons_zero, List.set_cons_succ]
                        refine held_take (i := 7) (v := ?_) rfl (by kernel_rfl) (by kernel_rfl) (by kernel_rfl) (fun _ _ _ h => h) (Or.inl ⟨by rfl, ?_⟩) (by assumption) ?_
                        rotate_left
                        · intro w hSw; (try dsimp only at hSw); go_simp; try with_reducible rfl
                        try simp only [Act.put, List.setIfInBounds_toArray, List.set_cons_zero, List.set_cons_succ]
                        refine held_take (i := 8) (v := ?_) rfl (by kernel_rfl) (by kernel_rfl) (by kernel_rfl) (fun _ _ _ h => h) (Or.inl ⟨by rfl, ?_⟩) (by assumption) ?_
                        rotate_left
                        · intro w hSw; (try dsimp only at hSw); go_simp; try with_reducible rfl
                        try simp only [Act.put, List.setIfInBounds_toArray, List.set_cons_zero, List.set_cons_succ]
                        refine wpAnyH_done (by kernel_rfl) ?_ _
                        clear hHeld
                        go_wp2_with fail
                        go_roundw
                        case rel => exact ⟨j' + 1, by omega, by go_num, _, rfl⟩
                        case measure => simp [intOf]; omega
                      · obtain rfl : j' = q := by omega
                        go_wp2_with fail
                        go_roundw
                        case rel => exact ⟨i' + 1, by omega, by go_num, _, rfl⟩
                        case measure => simp [intOf]; omega
                  · obtain rfl : i' = k := by omega
                    have h9 := h.out.drewN d
                    replace h9 := Lib.hid h9
                    go_wp2_with fail
                    refine (ca.out _).mono ?_
                    rintro e w3 ⟨rfl, B3⟩
                    have B4 := h9.out.low.trans (B3.mono h9.out.low.size)
                    replace B4 := Lib.hid B4
                    go_wp2_with fail
                    go_ret
                    exact ⟨rfl, B4.out⟩
    · have c2 := Lib.hid (fun wx => count_bad wx b hb)
      go_enter Try.func9, Try.ntmps9
      go_wp2_with fail
      refine (c1.out _).mono ?_
      rintro e w1 ⟨bx, rfl, hx, C1, B1⟩
      clear C1 hx c1
      replace B1 := Lib.hid B1
      go_wp2_with fail
      refine (c2.out _).mono ?_
      rintro e _ ⟨rfl, rfl⟩
      clear c2
      go_wp2_with fail
      refine (ca.out _).mono ?_
      rintro e w3 ⟨rfl, B3⟩
      have B4 := B1.out.trans (B3.mono B1.out.size)
      replace B4 := Lib.hid B4
      go_wp2_with fail
      go_ret
      exact ⟨rfl, B4.out⟩
  · have c1 := Lib.hid (count_bad w a ha)
    obtain ⟨E, c2⟩ := count_some w b
    replace c2 := Lib.hid c2
    go_enter Try.func9, Try.ntmps9
    go_wp2_with fail
    refine c1.out.mono ?_
    rintro e _ ⟨rfl, rfl⟩
    clear c1
    go_wp2_with fail
    refine c2.out.mono ?_
    rintro e w2 ⟨p, rfl, B2⟩
    clear c2
    replace B2 := Lib.hid B2
    go_wp2_with fail
    refine (ca.out _).mono ?_
    rintro e w3 ⟨rfl, B3⟩
    have B4 := B2.out.trans (B3.mono B2.out.size)
    replace B4 := Lib.hid B4
    go_wp2_with fail
    go_ret
    exact ⟨rfl, B4.out⟩
end Go.Proofs.Ytecmagenlbnchaa
namespace Go.Proofs.Ytecmagenlbnchaa
set_option maxRecDepth 100000
open Go.RowKit

theorem turnedK_ne {A : List Nat} {i c : Nat} (hi : i < A.length) (hc : c ≠ 0) : A ≠ A.set i (byt A i ^^^ c) := by
  intro e
  have h : A[i]? = (A.set i (byt A i ^^^ c))[i]? := by rw [← e]
  rw [List.getElem?_set_self hi, List.getElem?_eq_getElem hi] at h
  have e2 : byt A i = A[i] := by simp [byt, List.getD, hi]
  rw [e2] at h
  have h2 := Option.some.inj h
  have h3 : A[i] ^^^ (A[i] ^^^ c) = A[i] ^^^ A[i] := by rw [← h2]
  rw [← Nat.xor_assoc, Nat.xor_self, Nat.zero_xor] at h3
  exact hc h3
theorem wpList_load_partg {P : Program} {ops : Array Oper} {rest : List Oper} {op : Oper} {a : Act} {w : World} {Q : Exit → Act → World → Prop} (hw : Region.wanted op (yielded ops a.tmps) = true) (ty : TypeId) (x : Operand) (ho : op.op = .load ty x)
    (b o : Nat) (hx : a.eval x = .pointer (some ⟨b, o, none⟩)) (l : List Nat) {d : TypeDesc} (hu : P.underlying ty = some d) (hi : (P.info? ty).map (·.size) = some (u8s l).size) (hc : w.rangeAt b o (u8l l)) (hd : d.isRow = true)
    (h : wpList P ops Q rest (a.put op.dst (.agg (u8s l))) w) : wpList P ops Q (op :: rest) a w :=
  wpList_step fun K hK => by rw [if_pos hw]; exact wp_load_mid ty x ho b o hx (u8l l) d hc hu hd (by rw [hi]; simp [u8s, u8l]) (hK _ _ h)
theorem wpList_build0 {P : Program} {ops : Array Oper} {rest : List Oper} {o : Oper} {a : Act} {w : World} {Q : Exit → Act → World → Prop} (hw : Region.wanted o (yielded ops a.tmps) = true) (t : TypeId) (ho : o.op = .build t #[])
    (cells : Array Value) (hb : P.built t [] = some cells) (h : wpList P ops Q rest (a.put o.dst (.agg cells)) w) : wpList P ops Q (o :: rest) a w := by
  have e : (Array.map (fun ((i : Nat), x) => (i, a.eval x)) #[]).toList = [] := by simp
  exact wpList_step fun K hK => by rw [if_pos hw]; exact wp_build t _ ho (by rw [e, hb]; rfl) (by rw [e, hb]; exact hK _ _ h)
theorem slot_set {s C W : List Nat} (hs : s.length = 32) {i : Nat} (hi : i < C.length) (d : Nat) : (s ++ (C ++ W)).set (32 + i) d = s ++ (C.set i d ++ W) := by
  rw [List.set_append_right _ _ (by omega), hs, Nat.add_sub_cancel_left, List.set_append_left _ _ hi]
theorem slot_byt {s C W : List Nat} (hs : s.length = 32) {i : Nat} (hi : i < C.length) : byt (s ++ (C ++ W)) (32 + i) = byt C i := by
  simp [byt, List.getD, List.getElem?_append_right, hs, List.getElem?_append_left hi]
theorem cmpA32 {a b : List Nat} (ha : ∀ x ∈ a, x < 256) (hb : ∀ x ∈ b, x < 256) (la : a.length = 32) (lb : b.length = 32) (x : World) : (Op.equalIn 10000 22 (.agg (u8s a)) (.agg (u8s b))).run Try.prog x = .ok (a == b) x :=
  run_equal_arr (P := Try.prog) Try.underlying22 Try.underlying5 (by kernel_rfl) ha hb la lb x
/-- What KeysBack keeps. -/
structure BkSt (w w' : World) (o m s : List Nat) : Prop where
  o : RowB w' w.heap.size 23 o
  m : RowB w' (w.heap.size + 1) 23 m
  s : RowB w' (w.heap.size + 2) 22 s
  low : Below w.heap.size w w'
theorem BkSt.call {w w' w2 : World} {o m s : List Nat} (h : BkSt w w' o m s) (hB : Below w'.heap.size w' w2) : BkSt w w2 o m s :=
  ⟨h.o.below hB h.o.lt, h.m.below hB h.m.lt, h.s.below hB h.s.lt, h.low.trans (hB.mono h.low.size)⟩
theorem BkSt.upd {w w' w2 : World} {g : Nat} {o m s : List Nat} (h : BkSt w w' o m s) (hU : Upd (fun i => i = g) w' w2) (hg : w.heap.size + 2 < g) : BkSt w w2 o m s :=
  ⟨h.o.other (hU.block _ h.o.lt (by omega)), h.m.other (hU.block _ h.m.lt (by omega)), h.s.other (hU.block _ h.s.lt (by omega)), h.low.trans (hU.below (fun k hk e => by omega) h.low.size)⟩
theorem BkSt.begin (w : World) (o m s : List Nat) : BkSt w (((w.alloc (.cells (u8s o) 23)).alloc (.cells (u8s m) 23)).alloc (.cells (u8s s) 22)) o m s := by
  have h := MkSt.begin w o m s
  have r0 : RowB (w.alloc (.cells (u8s o) 23)) w.heap.size 23 o := heap_alloc_new _ _
  have r1 : RowB ((w.alloc (.cells (u8s o) 23)).alloc (.cells (u8s m) 23)) (w.heap.size + 1) 23 m := by
    rw [show w.heap.size + 1 = (w.alloc (.cells (u8s o) 23)).heap.size by simp]; exact heap_alloc_new _ _
  have r2 : RowB (((w.alloc (.cells (u8s o) 23)).alloc (.cells (u8s m) 23)).alloc (.cells (u8s s) 22)) (w.heap.size + 2) 22 s := by
    rw [show w.heap.size + 2 = ((w.alloc (.cells (u8s o) 23)).alloc (.cells (u8s m) 23)).heap.size by simp]; exact heap_alloc_new _ _
  exact ⟨(r0.alloc _).alloc _, r1.alloc _, r2, (((Below.refl _ _).alloc (Nat.le_refl _) _).alloc (by simp) _).alloc (by simp; omega) _⟩

set_option maxHeartbeats 4000000 in
set_option maxRecDepth 100000 in
theorem keysBack_law (w : World) (o m s : List Nat) (lo : o.length = 32) (so : ∀ x ∈ o, x < 256) (lm : m.length = 32) (sm : ∀ x ∈ m, x < 256) (ls : s.length = 32) (ss : ∀ x ∈ s, x < 256) (at_ : Int) (by_ : Nat) (hby : by_ < 256) :
    Calls Try.prog 8 #[.agg (u8s o), .agg (u8s m), .agg (u8s s), .int .i64 at_, .int .u8 (by_ : Int)] w fun e w' => e = .returned (.bool true) ∧ Below w.heap.size w w' := by
  have st0 := BkSt.begin w o m s
  have cm := Lib.hid (fun wx => make_any wx o m s lo so lm sm ls ss)
  have eS := slotL_eq o m s
  have lS := slotL_length (outer := o) lm ls
  have lC := baseK_length o s nmCheck
  have sC := baseK_small o s nmCheck
  have co := fun (C : List Nat) (hC : C.length = 32) (sC : ∀ x ∈ C, x < 256) wx => open_any wx o s C (wrapK o m s) lo so ls ss hC sC (wrapK_length lm) (wrapK_small sm)
  obtain ⟨m1, m2⟩ := open_made o m s lm sm
  have co1 := co (baseK o s nmCheck) lC sC
  rw [m1, m2, ← eS] at co1
  have ot := fun (C : List Nat) (h : (baseK o s nmCheck == C) = false) => open_other (WR := wrapK o m s) h
  have n1 := fun (x : World) => run_ne_arr (P := Try.prog) Try.underlying23 Try.underlying5 (by kernel_rfl) sm sm lm lm x
  have n2 := fun (x : World) => run_ne_arr (P := Try.prog) Try.underlying22 Try.underlying5 (by kernel_rfl) ss ss ls ls x
  simp only [beq_self_eq_true, Bool.not_true] at n1 n2
  have eK : Try.prog.eqGuardType Try.prog.depth 23 = false := by kernel_rfl
  have eA : Try.prog.eqGuardType Try.prog.depth 22 = false := by kernel_rfl
  have p0 : ((slotL o m s).drop 0).take s.length = s := by rw [eS]; simp
  have iO := infoKey lo
  have iM := infoKey lm
  have iA := infoA32 ls
  have iS := infoSlot lS
  have zS := zeroSlot lS
  have zM : (u8s (List.replicate 32 0)).size = (u8s m).size := by rw [size_u8s, size_u8s, lm]; simp
  clear m1 m2
  generalize wrapK o m s = WR at *
  generalize slotL o m s = SL at *
  generalize baseK o s nmCheck = C at *
  replace st0 := Lib.hid st0
  replace lo := Lib.hid lo
  replace so := Lib.hid so
  replace lm := Lib.hid lm
  replace sm := Lib.hid sm
  replace ls := Lib.hid ls
  replace ss := Lib.hid ss
  replace eS := Lib.hid eS
  replace lS := Lib.hid lS
  replace lC := Lib.hid lC
  replace sC := Lib.hid sC
  replace co := Lib.hid co
  replace co1 := Lib.hid co1
  replace ot := Lib.hid ot
  replace p0 := Lib.hid p0
  replace iO := Lib.hid iO
  replace iM := Lib.hid iM
  replace iA := Lib.hid iA
  replace iS := Lib.hid iS
  replace zS := Lib.hid zS
  replace zM := Lib.hid zM
  replace n1 := Lib.hid n1
  replace n2 := Lib.hid n2
  replace eK := Lib.hid eK
  replace eA := Lib.hid eA
  go_enter Try.func8, Try.ntmps8
  go_wp2_with (first
    | refine wpList_load_b (by rfl) 23 (.tmp 5) rfl w.heap.size rfl 23 o st0.out.o _ Try.underlying23 rfl iO.out ?_
    | refine wpList_load_b (by rfl) 23 (.tmp 6) rfl (w.heap.size + 1) rfl 23 m st0.out.m _ Try.underlying23 rfl iM.out ?_
    | refine wpList_load_b (by rfl) 22 (.tmp 7) rfl (w.heap.size + 2) rfl 22 s st0.out.s _ Try.underlying22 rfl iA.out ?_)
  refine (cm.out _).mono ?_
  rintro e w1 ⟨rfl, B1⟩
  have st1 := st0.out.call B1
  clear B1 st0 cm
  replace st1 := Lib.hid st1
  go_wp2_with (first
    | (refine wpList_store_n (by rfl) 51 (.tmp 11) (.tmp 20) rfl SL rfl rfl iS.out zS.out ?_; intro w2 R2 B2; have st2 := Lib.hid (st1.out.call B2.out))
    | refine wpList_load_b (by rfl) 23 (.tmp 5) rfl w.heap.size rfl 23 o st2.out.o _ Try.underlying23 rfl iO.out ?_
    | refine wpList_load_b (by rfl) 51 (.tmp 11) rfl w1.heap.size rfl 51 SL R2.out _ Try.underlying51 rfl iS.out ?_)
  refine (co1.out _).mono ?_
  rintro e w3 ⟨rfl, B3⟩
  have st3 := st2.out.call B3
  have R3 := R2.out.below B3 R2.out.lt
  clear st1 st2 B2 R2 B3 co1
  replace st3 := Lib.hid st3
  replace R3 := Lib.hid R3
  have r0 := row_range R3.out p0.out (by rw [lS.out, ls.out]; decide)
  replace r0 := Lib.hid r0
  have d3 : at_ < 0 ∨ ¬ at_ < 0 := by omega
  have d4 : 31 < at_ ∨ ¬ 31 < at_ := by omega
  have d5 : ((by_ : Int) == 0) = true ∨ ((by_ : Int) == 0) = false := by cases ((by_ : Int) == 0) <;> simp
  go_upto_region 3 with (first
    | (refine wpList_store_n (by rfl) 23 (.tmp 12) (.tmp 25) rfl m rfl rfl iM.out zM.out ?_; intro w4 R4 B4
       have st4 := Lib.hid (st3.out.call B4.out)
       have S4 := Lib.hid (R3.out.below B4.out R3.out.lt)
       have r4 := Lib.hid (row_range S4.out p0.out (by rw [lS.out, ls.out]; decide))))
  refine wp_region_lit ?_
  refine wpList_step (fun K hK => ?_)
  go_simp
  refine hK _ _ ?_
  clear hK K
  refine wpList_step (fun K hK => ?_)
  go_simp
  refine hK _ _ ?_
  clear hK K
  refine wpList_step (fun K hK => ?_)
  go_simp
  refine hK _ _ ?_
  clear hK K
  refine wpList_load_rowg (by rfl) 23 (.tmp 12) rfl w3.heap.size rfl 23 (u8s m) (0, 0) _ R4.out Try.underlying23 rfl iM.out ?_
  refine wpList_load_rowg (by rfl) 23 (.tmp 6) rfl (w.heap.size + 1) rfl 23 (u8s m) (0, 0) _ st4.out.m Try.underlying23 rfl iM.out ?_
  refine wpList_cmp (by rfl) .neq 23 23 (.tmp 30) (.tmp 31) rfl (u8s m) (u8s m) rfl rfl eK.out _ (n1.out _) ?_
  refine wpList_step (fun K hK => ?_)
  go_simp
  refine hK _ _ ?_
  clear hK K
  refine wpList_step (fun K hK => ?_)
  go_simp
  refine hK _ _ ?_
  clear hK K
  refine wpList_step (fun K hK => ?_)
  go_simp
  refine hK _ _ ?_
  clear hK K
  refine wpList_load_partg (by rfl) 22 (.tmp 35) rfl w1.heap.size 0 rfl s Try.underlying22 iA.out r4.out rfl ?_
  refine wpList_load_rowg (by rfl) 22 (.tmp 7) rfl (w.heap.size + 2) rfl 22 (u8s s) (0, 0) _ st4.out.s Try.underlying22 rfl iA.out ?_
  refine wpList_cmp (by rfl) .neq 22 22 (.tmp 36) (.tmp 37) rfl (u8s s) (u8s s) rfl rfl eA.out _ (n2.out _) ?_
  refine wpList_step (fun K hK => ?_)
  go_simp
  refine hK _ _ ?_
  clear hK K
  refine wpList_nil ?_
  clear R4 B4 R3 r4 r0
  rcases d3 with d3 | d3
  ·
    clear d4 d5
    go_wp2_with fail
    refine (alive21 _).mono ?_
    rintro e w5 ⟨rfl, B5⟩
    have L5 := st4.out.low.trans (B5.mono st4.out.low.size)
    replace L5 := Lib.hid L5
    clear B5
    go_wp2_with fail
    go_ret
    exact ⟨rfl, L5.out⟩
  rcases d4 with d4 | d4
  ·
    clear d5
    go_wp2_with fail
    refine (alive21 _).mono ?_
    rintro e w5 ⟨rfl, B5⟩
    have L5 := st4.out.low.trans (B5.mono st4.out.low.size)
    replace L5 := Lib.hid L5
    clear B5
    go_wp2_with fail
    go_ret
    exact ⟨rfl, L5.out⟩
  rcases d5 with d5 | d5
  ·
    go_wp2_with fail
    refine (alive21 _).mono ?_
    rintro e w5 ⟨rfl, B5⟩
    have L5 := st4.out.low.trans (B5.mono st4.out.low.size)
    replace L5 := Lib.hid L5
    clear B5
    go_wp2_with fail
    go_ret
    exact ⟨rfl, L5.out⟩
  obtain ⟨i, rfl⟩ : ∃ i : Nat, at_ = (i : Int) := ⟨at_.toNat, by omega⟩
  have hi : i < 32 := by omega
  have hby0 : by_ ≠ 0 := by
    have h := beq_eq_false_iff_ne.1 d5
    omega
  have hx := byt_lt sC.out i
  have ex := u8_xor_nat _ _ hx hby
  have hd2 : byt C i ^^^ by_ < 256 := Nat.xor_lt_two_pow (n := 8) hx hby
  have hne : (C == C.set i (byt C i ^^^ by_)) = false := beq_eq_false_iff_ne.2 (turnedK_ne (by rw [lC.out]; exact hi) hby0)
  obtain ⟨t1, t2⟩ := ot.out _ hne
  have lC2 : (C.set i (byt C i ^^^ by_)).length = 32 := by rw [List.length_set]; exact lC.out
  have sC2 : ∀ x ∈ C.set i (byt C i ^^^ by_), x < 256 := fun x hx => by
    rcases List.mem_or_eq_of_mem_set hx with h | h
    · exact sC.out x h
    · rw [h]; exact hd2
  have co2 := co.out _ lC2 sC2
  rw [t1, t2] at co2
  have e2 : SL.set (32 + i) (byt C i ^^^ by_) = s ++ (C.set i (byt C i ^^^ by_) ++ WR) := by rw [eS.out]; exact slot_set ls.out (by rw [lC.out]; exact hi) _
  have e3 : byt SL (32 + i) = byt C i := by rw [eS.out]; exact slot_byt ls.out (by rw [lC.out]; exact hi)
  rw [← e2] at co2
  have lS2 : (SL.set (32 + i) (byt C i ^^^ by_)).length = 104 := by rw [List.length_set]; exact lS.out
  have iS2 := infoSlot lS2
  generalize byt C i ^^^ by_ = D at *
  generalize byt C i = X at *
  have zK : (u8s (List.replicate 32 0)).size = (u8s (List.replicate 32 0)).size := rfl
  have iZ := infoKey (l := List.replicate 32 0) (by simp)
  have n3 := fun (x : World) => run_eql_arr (P := Try.prog) Try.underlying23 Try.underlying5 (by kernel_rfl) (a := List.replicate 32 0) (b := List.replicate 32 0) (by simp) (by simp) (by simp) (by simp) x
  simp only [beq_self_eq_true] at n3
  have bz : Try.prog.built 23 [] = some (u8s (List.replicate 32 0)) := by kernel_rfl
  clear hne t1 t2 lC2 sC2 e2 hx co ot eS lS2
  replace co2 := Lib.hid co2
  replace iS2 := Lib.hid iS2
  replace hd2 := Lib.hid hd2
  replace e3 := Lib.hid e3
  replace iZ := Lib.hid iZ
  replace zK := Lib.hid zK
  replace n3 := Lib.hid n3
  replace bz := Lib.hid bz
  replace hi := Lib.hid hi
  replace hby0 := Lib.hid hby0
  go_upto_region 8 with (first
    | refine wpList_load_b (by rfl) 51 (.tmp 11) rfl w1.heap.size rfl 51 SL S4.out _ Try.underlying51 rfl iS.out ?_
    | (refine wpList_store_n (by rfl) 51 (.tmp 14) (.tmp 51) rfl SL rfl rfl iS.out zS.out ?_; intro w5 R5 B5))
  have c5 := R5.out.byt (i := 32 + i) (by have := hi.out; rw [lS.out]; omega)
  rw [e3.out] at c5
  have f5 := R5.out.frozen (32 + i)
  have R6 := R5.out.set (32 + i) D
  have U6 : Upd (fun j => j = w4.heap.size) w5 (w5.setCell ⟨w4.heap.size, 32 + i, none⟩ (.int .u8 (D : Int))) := (Upd.refl _ _).setCell _ _ (fun _ => rfl)
  have st6 := (st4.out.call B5.out).upd U6 (by have := st4.out.s.lt; omega)
  have hi2 := hi.out
  replace R6 := Lib.hid R6
  replace st6 := Lib.hid st6
  clear U6 R5 B5 st4 S4
  go_upto_region 9 with fail
  generalize w5.setCell ⟨w4.heap.size, 32 + i, none⟩ (.int .u8 (D : Int)) = w6 at *
  clear c5 f5
  go_wp2_with (first
    | refine wpList_load_b (by rfl) 23 (.tmp 5) rfl w.heap.size rfl 23 o st6.out.o _ Try.underlying23 rfl iO.out ?_
    | refine wpList_load_b (by rfl) 51 (.tmp 14) rfl w4.heap.size rfl 51 _ R6.out _ Try.underlying51 rfl iS2.out ?_)
  refine (co2.out _).mono ?_
  rintro e w7 ⟨rfl, B7⟩
  have st7 := st6.out.call B7
  clear st6 R6 B7 co2
  replace st7 := Lib.hid st7
  go_upto_region 10 with (first
    | (refine wpList_store_n (by rfl) 23 (.tmp 15) (.tmp 65) rfl (List.replicate 32 0) rfl rfl iZ.out rfl ?_; intro w8 R8 B8))
  have st8 := st7.out.call B8.out
  clear st7 B8
  refine wp_region_lit ?_
  refine wpList_step (fun K hK => ?_)
  go_simp
  refine (alive21 _).mono ?_
  rintro e w9 ⟨rfl, B9⟩
  refine hK _ _ ?_
  clear hK K
  have L9 := st8.low.trans (B9.mono st8.low.size)
  have R9 := R8.out.below B9 R8.out.lt
  clear st8 B9 R8
  replace R9 := Lib.hid R9
  replace L9 := Lib.hid L9
  refine wpList_step (fun K hK => ?_)
  go_simp
  refine hK _ _ ?_
  clear hK K
  refine wpList_step (fun K hK => ?_)
  go_simp
  refine hK _ _ ?_
  clear hK K
  refine wpList_step (fun K hK => ?_)
  go_simp
  refine hK _ _ ?_
  clear hK K
  refine wpList_step (fun K hK => ?_)
  go_simp
  refine hK _ _ ?_
  clear hK K
  refine wpList_step (fun K hK => ?_)
  go_simp
  refine hK _ _ ?_
  clear hK K
  refine wpList_load_rowg (by rfl) 23 (.tmp 15) rfl w7.heap.size rfl 23 (u8s (List.replicate 32 0)) (0, 0) _ R9.out Try.underlying23 rfl iZ.out ?_
  refine wpList_build0 (by rfl) 23 rfl (u8s (List.replicate 32 0)) bz.out ?_
  refine wpList_cmp (by rfl) .eql 23 23 (.tmp 73) (.tmp 74) rfl (u8s (List.replicate 32 0)) (u8s (List.replicate 32 0)) rfl rfl eK.out _ (n3.out _) ?_
  refine wpList_step (fun K hK => ?_)
  go_simp
  refine hK _ _ ?_
  clear hK K
  refine wpList_step (fun K hK => ?_)
  go_simp
  refine hK _ _ ?_
  clear hK K
  refine wpList_nil ?_
  go_wp2_with fail
  go_ret
  exact ⟨rfl, L9.out⟩
end Go.Proofs.Ytecmagenlbnchaa
namespace Go.Proofs.Ytecmagenlbnchaa
set_option maxRecDepth 100000
open Go.RowKit

set_option maxRecDepth 100000 in
theorem derived21 (w : World) (vo vs : Value) (o s nm : List Nat) (b : ByteArray) (lo : o.length = 32) (ls : s.length = 32) (eb : textOf b = nm) (hb : b.size < 700000) (ho : TextAt w vo o) (hs : TextAt w vs s) :
    Calls Try.prog 47 #[vo, vs, .string b] w fun e w' => ∃ v', e = .returned v' ∧ TextAt w' v' (baseK o s nm) ∧ Below w.heap.size w w' := by
  have c1 := ref_mac w vs vo s o hs ho (by omega) (by omega)
  have c2 := fun wx vk (h : TextAt wx vk (macs s o)) => ref_derive wx vk (macs s o) b 0 h (by rw [macs_length]; decide) hb (by decide)
  have sM := macs_small s o
  have eK : baseK o s nm = macs (macs s o) (nm ++ beBytes 8 0 ++ [1]) := rfl
  rw [eb, ← eK] at c2
  generalize baseK o s nm = K at *
  generalize macs s o = M at *
  replace c1 := Lib.hid c1
  replace c2 := Lib.hid c2
  replace sM := Lib.hid sM
  replace lo := Lib.hid lo
  replace ls := Lib.hid ls
  replace eb := Lib.hid eb
  replace hb := Lib.hid hb
  replace ho := Lib.hid ho
  replace hs := Lib.hid hs
  replace eK := Lib.hid eK
  go_enter Try.func47, Try.ntmps47
  go_wp2_with fail
  refine c1.out.mono ?_
  rintro e w1 ⟨v1, rfl, O1, B1⟩
  have T1 := O1.text sM.out
  clear c1
  replace T1 := Lib.hid T1
  replace B1 := Lib.hid B1
  clear O1
  go_wp2_with fail
  refine (c2.out _ _ T1.out).mono ?_
  rintro e w2 ⟨v2, rfl, T2, B2⟩
  have L2 := B1.out.trans (B2.mono B1.out.size)
  clear c2
  replace T2 := Lib.hid T2
  replace L2 := Lib.hid L2
  go_wp2_with fail
  go_ret
  exact ⟨_, rfl, T2.out, L2.out⟩
/-- What of a slot the reference reads. -/
structure SlotAt (w : World) (v : Value) (s C W : List Nat) : Prop where
  t : TextAt w v (s ++ (C ++ W))
  ls : s.length = 32
  lc : C.length = 32
  lw : W.length = 40
theorem SlotAt.below {w w' : World} {v : Value} {s C W : List Nat} (h : SlotAt w v s C W) (hB : Below w.heap.size w w') : SlotAt w' v s C W := ⟨h.t.below hB, h.ls, h.lc, h.lw⟩
theorem SlotAt.cut {w : World} {v : Value} {s C W : List Nat} (h : SlotAt w v s C W) : ∃ ao cap, v = .slice ao 104 cap ∧ 104 ≤ cap ∧ (∀ w', TextAt w' v (s ++ (C ++ W)) → TextAt w' (.slice ao 32 cap) s ∧ TextAt w' (.slice (cutA ao cap 32) 32 (cap - 32)) C ∧ TextAt w' (.slice (cutA ao cap 64) 40 (cap - 64)) W) := by
  obtain ⟨p0, p1, p2, pl⟩ := slot_parts h.ls h.lc h.lw
  obtain ⟨ao, cap, e, g1, _, _⟩ := h.t.ex
  rw [pl] at e g1
  refine ⟨ao, cap, e, g1, fun w' ht => ?_⟩
  rw [e] at ht
  have ht' : TextAt w' (.slice ao (s ++ (C ++ W)).length cap) (s ++ (C ++ W)) := by rw [pl]; exact ht
  refine ⟨?_, ?_, ?_⟩
  · have := ht'.cutHi (hi := 32) (by omega)
    rwa [show (s ++ (C ++ W)).take 32 = s by rw [← h.ls]; simp] at this
  · have := ht'.cut (lo := 32) (hi := 64) (by decide) (by omega)
    rwa [show (64 - 32 : Nat) = 32 from rfl, p1] at this
  · have := ht'.cut (lo := 64) (hi := 104) (by decide) (by omega)
    rwa [show (104 - 64 : Nat) = 40 from rfl, p2] at this
theorem str_dec' {a b : List Nat} (ha : ∀ x ∈ a, x < 256) (hb : ∀ x ∈ b, x < 256) : decide ((strOf a).toList = (strOf b).toList) = (a == b) := by
  rw [← str_lst ha hb, Bool.eq_iff_iff, decide_eq_true_iff, beq_iff_eq]
set_option maxHeartbeats 4000000 in
set_option maxRecDepth 100000 in
theorem check21 (w : World) (vo vs : Value) (o s C W : List Nat) (lo : o.length = 32) (sC : ∀ x ∈ C, x < 256) (ho : TextAt w vo o) (hs : SlotAt w vs s C W) :
    Calls Try.prog 45 #[vo, vs] w fun e w' => e = .returned (.bool (baseK o s nmCheck == C)) ∧ Below w.heap.size w w' := by
  obtain ⟨ao, cap, rfl, hcap, hcut⟩ := hs.cut
  have cd := fun (wx : World) (h1 : TextAt wx vo o) (h2 : TextAt wx (.slice ao 32 cap) s) => derived21 wx vo _ o s nmCheck ⟨#[99, 104, 101, 99, 107]⟩ lo hs.ls text_check (by decide) h1 h2
  have c1 := run_cut_h (P := Try.prog) (T := 25) (e := 5) Try.underlying25 infoU8s ao 104 cap 32 (by omega) 32 rfl
  have c2 := run_cut_lh (P := Try.prog) (T := 25) (e := 5) Try.underlying25 infoU8s ao 104 cap 32 64 (by decide) (by omega) 32 64 rfl rfl
  have sK := baseK_small o s nmCheck
  generalize baseK o s nmCheck = K at *
  have e1 := str_lst sK sC
  have e2 := str_dec sK sC
  generalize (K == C) = B at *
  have ht := hs.t
  replace cd := Lib.hid cd
  replace sK := Lib.hid sK
  replace sC := Lib.hid sC
  replace lo := Lib.hid lo
  replace ho := Lib.hid ho
  replace hs := Lib.hid hs
  replace hcap := Lib.hid hcap
  replace hcut := Lib.hid hcut
  replace ht := Lib.hid ht
  go_enter Try.func45, Try.ntmps45
  go_wp2_with fail
  refine wp_region_held_drew (S := (fun w' => TextAt w' (.slice ao 104 cap) (s ++ (C ++ W)))) (by kernel_rfl) (ht.out.drew) (fun hHeld => ?_)
  refine held_take (i := 0) (v := ?_) rfl (by kernel_rfl) (by kernel_rfl) (by kernel_rfl) (fun _ _ _ h => h) (Or.inl ⟨by rfl, ?_⟩) (by assumption) ?_
  rotate_left
  · intro w hSw; (try dsimp only at hSw); go_simp; try with_reducible rfl
  try simp only [Act.put, List.setIfInBounds_toArray, List.set_cons_zero, List.set_cons_succ]
  refine held_take (i := 1) (v := ?_) rfl (by kernel_rfl) (by kernel_rfl) (by kernel_rfl) (fun _ _ _ h => h) (Or.inl ⟨by rfl, ?_⟩) (by assumption) ?_
  rotate_left
  · intro w hSw; (try dsimp only at hSw); go_simp; try with_reducible rfl
  try simp only [Act.put, List.setIfInBounds_toArray, List.set_cons_zero, List.set_cons_succ]
  refine held_take (i := 2) (v := ?_) rfl (by kernel_rfl) (by kernel_rfl) (by kernel_rfl) (fun _ _ _ h => h) (Or.inl ⟨by rfl, ?_⟩) (by assumption) ?_
  rotate_left
  · intro w hSw; (try dsimp only at hSw); go_simp; try with_reducible rfl
  try simp only [Act.put, List.setIfInBounds_toArray, List.set_cons_zero, List.set_cons_succ]
  refine held_take (i := 5) (v := ?_) rfl (by kernel_rfl) (by kernel_rfl) (by kernel_rfl) (fun _ _ _ h => h) (Or.inl ⟨by rfl, ?_⟩) (by assumption) ?_
  rotate_left
  · intro w hSw; (try dsimp only at hSw); go_simp; try with_reducible rfl
  try simp only [Act.put, List.setIfInBounds_toArray, List.set_cons_zero, List.set_cons_succ]
  refine held_take (i := 6) (v := ?_) rfl (by kernel_rfl) (by kernel_rfl) (by kernel_rfl) (fun _ _ _ h => h) (Or.inl ⟨by rfl, ?_⟩) (by assumption) ?_
  rotate_left
  · intro w hSw; (try dsimp only at hSw); go_simp; try with_reducible rfl
  try simp only [Act.put, List.setIfInBounds_toArray, List.set_cons_zero, List.set_cons_succ]
  refine held_take (i := 7) (v := _) rfl (by kernel_rfl) (by kernel_rfl) (by kernel_rfl) (fun _ _ _ h => h) (yieldsIf_str (by rfl) rfl rfl (v := .slice (cutA ao cap 32) 32 (cap - 32)) (fun w' h => (hcut.out w' h).2.1)) (by assumption) ?_
  try simp only [Act.put, List.setIfInBounds_toArray, List.set_cons_zero, List.set_cons_succ]
  refine held_ready (i := 3) rfl (by kernel_rfl) (fun K hK => ?_)
  go_simp
  refine (cd.out _ ho.out.drew (hcut.out _ ht.out.drew).1).mono ?_
  rintro e w1 ⟨v1, rfl, T1, B1⟩
  have hu := ht.out.drew.below B1
  have L1 : Below w.heap.size w w1 := ((Below.refl _ w).drew).trans B1
  clear cd
  replace T1 := Lib.hid T1
  replace hu := Lib.hid hu
  replace L1 := Lib.hid L1
  refine hK.out _ _ (hu.out) (fun hHeldN => ?_)
  clear hHeld hK K
  have hHeld := hHeldN
  clear hHeldN
  try simp only [Act.put, List.setIfInBounds_toArray, List.set_cons_zero, List.set_cons_succ]
  refine held_ready (i := 4) rfl (by kernel_rfl) (fun K hK => ?_)
  rw [if_pos (by rfl)]
  refine wp_str rfl rfl T1.out ?_
  refine hK.out _ _ (hu.out) (fun hHeldN => ?_)
  clear hHeld hK K
  have hHeld := hHeldN
  clear hHeldN
  try simp only [Act.put, List.setIfInBounds_toArray, List.set_cons_zero, List.set_cons_succ]
  refine held_take (i := 8) (v := ?_) rfl (by kernel_rfl) (by kernel_rfl) (by kernel_rfl) (fun _ _ _ h => h) (Or.inl ⟨by rfl, ?_⟩) (by assumption) ?_
  rotate_left
  · intro w hSw; (try dsimp only at hSw); go_simp; try with_reducible rfl
  try simp only [Act.put, List.setIfInBounds_toArray, List.set_cons_zero, List.set_cons_succ]
  refine held_take (i := 9) (v := ?_) rfl (by kernel_rfl) (by kernel_rfl) (by kernel_rfl) (fun _ _ _ h => h) (Or.inl ⟨by rfl, ?_⟩) (by assumption) ?_
  rotate_left
  · intro w hSw; (try dsimp only at hSw); go_simp; try with_reducible rfl
  try simp only [Act.put, List.setIfInBounds_toArray, List.set_cons_zero, List.set_cons_succ]
  refine wpAnyH_done (by kernel_rfl) ?_ _
  clear hHeld
  go_wp2_with fail
  go_ret
  exact ⟨rfl, L1.out⟩
set_option maxRecDepth 100000 in
theorem as20 (w : World) (s C W : List Nat) (ls : s.length = 32) (lc : C.length = 32) (lw : W.length = 40) (sS : ∀ x ∈ s ++ (C ++ W), x < 256) :
    Calls Try.prog 29 #[.agg (u8s (s ++ (C ++ W)))] w fun e w' => ∃ v', e = .returned v' ∧ SlotAt w' v' s C W ∧ Below w.heap.size w w' := by
  obtain ⟨p0, p1, p2, pl⟩ := slot_parts ls lc lw
  have r0 : RowB (w.alloc (.cells (u8s (s ++ (C ++ W))) 51)) w.heap.size 51 (s ++ (C ++ W)) := heap_alloc_new _ _
  rw [ls] at p0
  have t0 := fun w' (h : RowB w' w.heap.size 51 (s ++ (C ++ W))) => row_part2 h p0 (by omega) sS
  have t1 := fun w' (h : RowB w' w.heap.size 51 (s ++ (C ++ W))) => row_part2 h p1 (by omega) sS
  have t2 := fun w' (h : RowB w' w.heap.size 51 (s ++ (C ++ W))) => row_part2 h p2 (by omega) sS
  have eA : (s ++ C) ++ W = s ++ (C ++ W) := List.append_assoc _ _ _
  generalize s ++ (C ++ W) = S at *
  have z0 : TextAt (w.alloc (.cells (u8s S) 51)) (.slice (some ⟨w.heap.size, 0, none⟩) 32 32) s := t0 _ r0
  have b0 : Below w.heap.size w (w.alloc (.cells (u8s S) 51)) := (Below.refl _ _).alloc (Nat.le_refl _) _
  replace r0 := Lib.hid r0
  replace ls := Lib.hid ls
  replace lc := Lib.hid lc
  replace lw := Lib.hid lw
  replace sS := Lib.hid sS
  replace p0 := Lib.hid p0
  replace p1 := Lib.hid p1
  replace p2 := Lib.hid p2
  replace pl := Lib.hid pl
  replace t0 := Lib.hid t0
  replace t1 := Lib.hid t1
  replace t2 := Lib.hid t2
  replace eA := Lib.hid eA
  replace z0 := Lib.hid z0
  replace b0 := Lib.hid b0
  go_enter Try.func29, Try.ntmps29
  go_wp2_with (first
    | (at_builtin; refine wpList_append_s (by rfl) (.tmp 4) (.tmp 6) rfl (w.alloc (.cells (u8s S) 51)).heap.size (w.alloc (.cells (u8s S) 51)) (.slice none 0 0) [] rfl (Own.nil _ _ _) (Below.refl _ _) (Nat.le_refl _) _ s rfl z0.out (by rw [ls.out]; decide) ?_; intro v1 w1 O1 B1
       have r1 := Lib.hid (r0.out.below (B1.out.mono (Nat.le_refl _)) r0.out.lt); have z1 := Lib.hid (t1.out _ r1.out); have c1 := Lib.hid B1.out.size)
    | (at_builtin; refine wpList_append_s (by rfl) (.tmp 8) (.tmp 10) rfl (w.alloc (.cells (u8s S) 51)).heap.size (w.alloc (.cells (u8s S) 51)) v1 s rfl O1.out B1.out c1.out _ C rfl z1.out (by rw [ls.out, lc.out]; decide) ?_; intro v2 w2 O2 B2
       have r2 := Lib.hid (r0.out.below B2.out r0.out.lt); have z2 := Lib.hid (t2.out _ r2.out); have c2 := Lib.hid B2.out.size)
    | (at_builtin; refine wpList_append_s (by rfl) (.tmp 12) (.tmp 14) rfl (w.alloc (.cells (u8s S) 51)).heap.size (w.alloc (.cells (u8s S) 51)) v2 (s ++ C) rfl O2.out B2.out c2.out _ W rfl z2.out (by rw [List.length_append, ls.out, lc.out, lw.out]; decide) ?_; intro v3 w3 O3 B3))
  have T3 := O3.out.text (by rw [eA.out]; exact sS.out)
  have T4 : TextAt w3 v3 (s ++ (C ++ W)) := by rw [← List.append_assoc]; exact T3
  go_ret
  exact ⟨_, rfl, ⟨T4, ls.out, lc.out, lw.out⟩, b0.out.trans (B3.out.mono b0.out.size)⟩
end Go.Proofs.Ytecmagenlbnchaa
namespace Go.Proofs.Ytecmagenlbnchaa
set_option maxRecDepth 100000
open Go.RowKit

set_option maxHeartbeats 4000000 in
set_option maxRecDepth 100000 in
theorem open21 (w : World) (vo vs : Value) (o s C W : List Nat) (lo : o.length = 32) (sC : ∀ x ∈ C, x < 256) (ho : TextAt w vo o) (hs : SlotAt w vs s C W) :
    Calls Try.prog 28 #[vo, vs] w fun e w' => ∃ x, e = .returned (.tuple #[x, .int .i64 (openE o s C W)]) ∧ TextAt w' x (openL o s C W) ∧ Below w.heap.size w w' := by
  have cc := Lib.hid (check21 w vo vs o s C W lo sC ho hs)
  obtain ⟨ao, cap, rfl, hcap, hcut⟩ := hs.cut
  have cd := fun (wx : World) (h1 : TextAt wx vo o) (h2 : TextAt wx (.slice ao 32 cap) s) => derived21 wx vo _ o s nmWrap ⟨#[119, 114, 97, 112]⟩ lo hs.ls text_wrap (by decide) h1 h2
  have cu := fun (wx : World) (vk : Value) (h1 : TextAt wx vk (baseK o s nmWrap)) (h2 : TextAt wx (.slice (cutA ao cap 64) 40 (cap - 64)) W) => r7unwrap_st wx vk (baseK o s nmWrap) (baseK_length _ _ _) h1 _ W h2 (by rw [hs.lw]; decide)
  have c1 := run_cut_h (P := Try.prog) (T := 25) (e := 5) Try.underlying25 infoU8s ao 104 cap 32 (by omega) 32 rfl
  have c2 := run_cut_lh (P := Try.prog) (T := 25) (e := 5) Try.underlying25 infoU8s ao 104 cap 64 104 (by decide) (by omega) 64 104 rfl rfl
  have hm := run_make_u8 32 32 (Nat.le_refl _) (by decide)
  rw [show ((32 : Nat) : Int) = 32 from rfl] at hm
  have ht := hs.t
  have eE : openE o s C W = if (baseK o s nmCheck == C) = true then (if unwE (byt (wordsOf (byt (baseK o s nmWrap)))) W = 0 then 0 else 40) else 50 := rfl
  have eL : openL o s C W = if openE o s C W = 0 then (unL (byt (wordsOf (byt (baseK o s nmWrap)))) W).drop 8 else List.replicate 32 0 := rfl
  have eU : unwT (byt (wordsOf (byt (baseK o s nmWrap)))) W = if unwE (byt (wordsOf (byt (baseK o s nmWrap)))) W = 0 then (unL (byt (wordsOf (byt (baseK o s nmWrap)))) W).drop 8 else [] := rfl
  generalize openL o s C W = LL at *
  generalize openE o s C W = EE at *
  generalize unwT (byt (wordsOf (byt (baseK o s nmWrap)))) W = UT at *
  generalize (unL (byt (wordsOf (byt (baseK o s nmWrap)))) W).drop 8 = UL at *
  generalize unwE (byt (wordsOf (byt (baseK o s nmWrap)))) W = E at *
  generalize baseK o s nmWrap = KW at *
  generalize baseK o s nmCheck = K at *
  replace cd := Lib.hid cd
  replace cu := Lib.hid cu
  replace sC := Lib.hid sC
  replace lo := Lib.hid lo
  replace ho := Lib.hid ho
  replace hs := Lib.hid hs
  replace hcap := Lib.hid hcap
  replace hcut := Lib.hid hcut
  replace ht := Lib.hid ht
  replace eE := Lib.hid eE
  replace eL := Lib.hid eL
  replace eU := Lib.hid eU
  go_enter Try.func28, Try.ntmps28
  go_wp2_with fail
  refine cc.out.mono ?_
  rintro e w1 ⟨rfl, B1⟩
  replace B1 := Lib.hid B1
  clear cc
  cases hb : (K == C) with
  | false =>
    rw [hb] at eE
    rw [if_neg (by decide)] at eE
    have e1 : EE = 50 := eE.out
    have e2 : LL = List.replicate 32 0 := by rw [eL.out, e1, if_neg (by decide)]
    replace e1 := Lib.hid e1
    replace e2 := Lib.hid e2
    go_wp2_with fail
    go_ret2
    rw [e1.out, e2.out]
    have r : RowB (w1.alloc (.cells (u8s (List.replicate 32 0)) 5)) w1.heap.size 5 (List.replicate 32 0) := heap_alloc_new _ _
    exact ⟨_, rfl, row_whole r (by simp) (by simp), B1.out.alloc B1.out.size _⟩
  | true =>
    rw [hb] at eE
    rw [if_pos rfl] at eE
    have ht1 := ht.out.below B1.out
    have ho1 := ho.out.below B1.out
    replace ht1 := Lib.hid ht1
    replace ho1 := Lib.hid ho1
    go_wp2_with fail
    refine wp_region_held_drew (S := (fun _ => True)) (by kernel_rfl) (trivial) (fun hHeld => ?_)
    refine held_take (i := 0) (v := ?_) rfl (by kernel_rfl) (by kernel_rfl) (by kernel_rfl) (fun _ _ _ h => h) (Or.inl ⟨by rfl, ?_⟩) (by assumption) ?_
    rotate_left
    · intro w hSw; (try dsimp only at hSw); go_simp; try with_reducible rfl
    try simp only [Act.put, List.setIfInBounds_toArray, List.set_cons_zero, List.set_cons_succ]
    refine held_take (i := 1) (v := ?_) rfl (by kernel_rfl) (by kernel_rfl) (by kernel_rfl) (fun _ _ _ h => h) (Or.inl ⟨by rfl, ?_⟩) (by assumption) ?_
    rotate_left
    · intro w hSw; (try dsimp only at hSw); go_simp; try with_reducible rfl
    try simp only [Act.put, List.setIfInBounds_toArray, List.set_cons_zero, List.set_cons_succ]
    refine held_take (i := 3) (v := ?_) rfl (by kernel_rfl) (by kernel_rfl) (by kernel_rfl) (fun _ _ _ h => h) (Or.inl ⟨by rfl, ?_⟩) (by assumption) ?_
    rotate_left
    · intro w hSw; (try dsimp only at hSw); go_simp; try with_reducible rfl
    try simp only [Act.put, List.setIfInBounds_toArray, List.set_cons_zero, List.set_cons_succ]
    refine held_take (i := 4) (v := ?_) rfl (by kernel_rfl) (by kernel_rfl) (by kernel_rfl) (fun _ _ _ h => h) (Or.inl ⟨by rfl, ?_⟩) (by assumption) ?_
    rotate_left
    · intro w hSw; (try dsimp only at hSw); go_simp; try with_reducible rfl
    try simp only [Act.put, List.setIfInBounds_toArray, List.set_cons_zero, List.set_cons_succ]
    refine held_ready (i := 2) rfl (by kernel_rfl) (fun K hK => ?_)
    go_simp
    refine (cd.out _ ho1.out.drew (hcut.out _ ht1.out.drew).1).mono ?_
    rintro e w2 ⟨v2, rfl, T2, B2⟩
    have ht2 := ht1.out.drew.below B2
    have L2 : Below w.heap.size w w2 := (B1.out.drew).trans (B2.mono B1.out.size)
    clear cd
    replace T2 := Lib.hid T2
    replace ht2 := Lib.hid ht2
    replace L2 := Lib.hid L2
    clear B2
    refine hK.out _ _ (trivial) (fun hHeldN => ?_)
    clear hHeld hK K
    have hHeld := hHeldN
    clear hHeldN
    try simp only [Act.put, List.setIfInBounds_toArray, List.set_cons_zero, List.set_cons_succ]
    refine held_ready (i := 5) rfl (by kernel_rfl) (fun K hK => ?_)
    go_simp
    refine (cu.out _ _ T2.out (hcut.out _ ht2.out).2.2).mono ?_
    rintro e w3 ⟨v3, rfl, T3, B3⟩
    have L3 : Below w.heap.size w w3 := L2.out.trans (B3.mono L2.out.size)
    clear cu
    replace T3 := Lib.hid T3
    replace L3 := Lib.hid L3
    clear B3
    refine hK.out _ _ (trivial) (fun hHeldN => ?_)
    clear hHeld hK K
    have hHeld := hHeldN
    clear hHeldN
    try simp only [Act.put, List.setIfInBounds_toArray, List.set_cons_zero, List.set_cons_succ]
    refine held_take (i := 6) (v := ?_) rfl (by kernel_rfl) (by kernel_rfl) (by kernel_rfl) (fun _ _ _ h => h) (Or.inl ⟨by rfl, ?_⟩) (by assumption) ?_
    rotate_left
    · intro w hSw; (try dsimp only at hSw); go_simp; try with_reducible rfl
    try simp only [Act.put, List.setIfInBounds_toArray, List.set_cons_zero, List.set_cons_succ]
    refine held_take (i := 7) (v := ?_) rfl (by kernel_rfl) (by kernel_rfl) (by kernel_rfl) (fun _ _ _ h => h) (Or.inl ⟨by rfl, ?_⟩) (by assumption) ?_
    rotate_left
    · intro w hSw; (try dsimp only at hSw); go_simp; try with_reducible rfl
    try simp only [Act.put, List.setIfInBounds_toArray, List.set_cons_zero, List.set_cons_succ]
    refine held_take (i := 8) (v := ?_) rfl (by kernel_rfl) (by kernel_rfl) (by kernel_rfl) (fun _ _ _ h => h) (Or.inl ⟨by rfl, ?_⟩) (by assumption) ?_
    rotate_left
    · intro w hSw; (try dsimp only at hSw); go_simp; try with_reducible rfl
    try simp only [Act.put, List.setIfInBounds_toArray, List.set_cons_zero, List.set_cons_succ]
    refine held_take (i := 9) (v := ?_) rfl (by kernel_rfl) (by kernel_rfl) (by kernel_rfl) (fun _ _ _ h => h) (Or.inl ⟨by rfl, ?_⟩) (by assumption) ?_
    rotate_left
    · intro w hSw; (try dsimp only at hSw); go_simp; try with_reducible rfl
    try simp only [Act.put, List.setIfInBounds_toArray, List.set_cons_zero, List.set_cons_succ]
    refine held_take (i := 10) (v := ?_) rfl (by kernel_rfl) (by kernel_rfl) (by kernel_rfl) (fun _ _ _ h => h) (Or.inl ⟨by rfl, ?_⟩) (by assumption) ?_
    rotate_left
    · intro w hSw; (try dsimp only at hSw); go_simp; try with_reducible rfl
    try simp only [Act.put, List.setIfInBounds_toArray, List.set_cons_zero, List.set_cons_succ]
    refine wpAnyH_done (by kernel_rfl) ?_ _
    clear hHeld
    by_cases hE : E = 0
    · subst hE
      rw [if_pos rfl] at eE eU
      have e2 : LL = UT := by rw [eL.out, eE.out, if_pos rfl, eU.out]
      replace e2 := Lib.hid e2
      go_wp2_with fail
      go_ret2
      rw [eE.out, e2.out]
      exact ⟨_, rfl, T3.out, L3.out⟩
    · rw [if_neg hE] at eE eU
      have e1 : EE = 40 := eE.out
      have d : decide (E = 0) = false := decide_eq_false hE
      have e2 : LL = List.replicate 32 0 := by rw [eL.out, e1, if_neg (by decide)]
      replace e1 := Lib.hid e1
      replace e2 := Lib.hid e2
      go_wp2_with fail
      go_ret2
      rw [e1.out, e2.out]
      have r : RowB (w3.alloc (.cells (u8s (List.replicate 32 0)) 5)) w3.heap.size 5 (List.replicate 32 0) := heap_alloc_new _ _
      exact ⟨_, rfl, row_whole r (by simp) (by simp), L3.out.alloc L3.out.size _⟩
set_option maxHeartbeats 4000000 in
set_option maxRecDepth 100000 in
theorem make21 (w : World) (vo vm vs : Value) (o m s : List Nat) (lo : o.length = 32) (lm : m.length = 32) (ls : s.length = 32) (ho : TextAt w vo o) (hm : TextAt w vm m) (hs : TextAt w vs s) :
    Calls Try.prog 31 #[vo, vm, vs] w fun e w' => ∃ x, e = .returned x ∧ TextAt w' x (slotL o m s) ∧ Below w.heap.size w w' := by
  have cd1 := Lib.hid (fun (wx : World) (h1 : TextAt wx vo o) (h2 : TextAt wx vs s) => derived21 wx vo _ o s nmCheck ⟨#[99, 104, 101, 99, 107]⟩ lo ls text_check (by decide) h1 h2)
  have cd2 := Lib.hid (fun (wx : World) (h1 : TextAt wx vo o) (h2 : TextAt wx vs s) => derived21 wx vo _ o s nmWrap ⟨#[119, 114, 97, 112]⟩ lo ls text_wrap (by decide) h1 h2)
  have cw := Lib.hid (fun (wx : World) (vk : Value) (h1 : TextAt wx vk (baseK o s nmWrap)) (h2 : TextAt wx vm m) => r7wrap_st wx vk (baseK o s nmWrap) (baseK_length _ _ _) h1 _ m h2 (by rw [lm]; decide))
  have eW : wrapT (byt (wordsOf (byt (baseK o s nmWrap)))) m = wrapK o m s := by
    unfold wrapT wrapK
    rw [if_pos (show fitsB m.length 0 = true by rw [lm]; decide)]
  rw [eW] at cw
  have lC := baseK_length o s nmCheck
  have sC := baseK_small o s nmCheck
  have lW := wrapK_length (outer := o) (salt := s) lm
  have sW := wrapK_small (outer := o) (salt := s) hm.small
  have sS := hs.small
  have eS := slotL_eq o m s
  generalize wrapK o m s = W at *
  generalize slotL o m s = S at *
  generalize baseK o s nmWrap = KW at *
  generalize baseK o s nmCheck = C at *
  clear eW
  replace lo := Lib.hid lo
  replace lm := Lib.hid lm
  replace ls := Lib.hid ls
  replace ho := Lib.hid ho
  replace hm := Lib.hid hm
  replace hs := Lib.hid hs
  replace lC := Lib.hid lC
  replace sC := Lib.hid sC
  replace lW := Lib.hid lW
  replace sW := Lib.hid sW
  replace sS := Lib.hid sS
  replace eS := Lib.hid eS
  go_enter Try.func31, Try.ntmps31
  go_wp2_with (at_builtin; refine wpList_append_s (by rfl) (.tmp 10) (.tmp 11) rfl w.heap.size w (.slice none 0 0) [] rfl (Own.nil _ _ _) (Below.refl _ _) (Nat.le_refl _) _ s rfl hs.out (by rw [ls.out]; decide) ?_; intro v1 w1 O1 B1)
  refine (cd1.out _ (ho.out.below B1.out) (hs.out.below B1.out)).mono ?_
  rintro e w2 ⟨v2, rfl, T2, B2⟩
  have L2 := B1.out.trans (B2.mono B1.out.size)
  have O2 := O1.out.below B2
  clear cd1 O1 B1 B2
  replace T2 := Lib.hid T2
  replace L2 := Lib.hid L2
  replace O2 := Lib.hid O2
  go_wp2_with (at_builtin; refine wpList_append_s (by rfl) (.tmp 13) (.tmp 16) rfl w.heap.size w v1 s rfl O2.out L2.out L2.out.size _ C rfl T2.out (by rw [ls.out, lC.out]; decide) ?_; intro v3 w3 O3 B3)
  refine (cd2.out _ (ho.out.below B3.out) (hs.out.below B3.out)).mono ?_
  rintro e w4 ⟨v4, rfl, T4, B4⟩
  have L4 := B3.out.trans (B4.mono B3.out.size)
  have O4 := O3.out.below B4
  clear cd2 O3 B3 B4 O2 T2 L2
  replace T4 := Lib.hid T4
  replace L4 := Lib.hid L4
  replace O4 := Lib.hid O4
  go_wp2_with fail
  refine (cw.out _ _ T4.out (hm.out.below L4.out)).mono ?_
  rintro e w5 ⟨v5, rfl, T5, B5⟩
  have L5 := L4.out.trans (B5.mono L4.out.size)
  have O5 := O4.out.below B5
  clear cw O4 B5 T4 L4
  replace T5 := Lib.hid T5
  replace L5 := Lib.hid L5
  replace O5 := Lib.hid O5
  go_wp2_with (at_builtin; refine wpList_append_s (by rfl) (.tmp 26) (.tmp 27) rfl w.heap.size w v3 (s ++ C) rfl O5.out L5.out L5.out.size _ W rfl T5.out (by rw [List.length_append, ls.out, lC.out, lW.out]; decide) ?_; intro v6 w6 O6 B6)
  have T6 := O6.out.text (by
    intro x hx
    rcases List.mem_append.1 hx with h | h
    · rcases List.mem_append.1 h with h | h
      · exact sS.out x h
      · exact sC.out x h
    · exact sW.out x h)
  have T7 : TextAt w6 v6 S := by rw [eS.out, ← List.append_assoc]; exact T6
  go_ret
  exact ⟨_, rfl, T7, B6.out⟩
end Go.Proofs.Ytecmagenlbnchaa
namespace Go.Proofs.Ytecmagenlbnchaa
set_option maxRecDepth 100000
open Go.RowKit

/-- What KeysSlots keeps. -/
structure SsSt (w w' : World) (o m s S : List Nat) : Prop where
  o : RowB w' w.heap.size 23 o
  m : RowB w' (w.heap.size + 1) 23 m
  s : RowB w' (w.heap.size + 2) 22 s
  z : RowB w' (w.heap.size + 3) 51 S
  low : Below w.heap.size w w'
theorem SsSt.call {w w' w2 : World} {o m s S : List Nat} (h : SsSt w w' o m s S) (hB : Below w'.heap.size w' w2) : SsSt w w2 o m s S :=
  ⟨h.o.below hB h.o.lt, h.m.below hB h.m.lt, h.s.below hB h.s.lt, h.z.below hB h.z.lt, h.low.trans (hB.mono h.low.size)⟩
theorem SsSt.begin (w : World) (o m s S : List Nat) : SsSt w ((((w.alloc (.cells (u8s o) 23)).alloc (.cells (u8s m) 23)).alloc (.cells (u8s s) 22)).alloc (.cells (u8s S) 51)) o m s S := by
  have r0 : RowB (w.alloc (.cells (u8s o) 23)) w.heap.size 23 o := heap_alloc_new _ _
  have r1 : RowB ((w.alloc (.cells (u8s o) 23)).alloc (.cells (u8s m) 23)) (w.heap.size + 1) 23 m := by
    rw [show w.heap.size + 1 = (w.alloc (.cells (u8s o) 23)).heap.size by simp]; exact heap_alloc_new _ _
  have r2 : RowB (((w.alloc (.cells (u8s o) 23)).alloc (.cells (u8s m) 23)).alloc (.cells (u8s s) 22)) (w.heap.size + 2) 22 s := by
    rw [show w.heap.size + 2 = ((w.alloc (.cells (u8s o) 23)).alloc (.cells (u8s m) 23)).heap.size by simp]; exact heap_alloc_new _ _
  have r3 : RowB ((((w.alloc (.cells (u8s o) 23)).alloc (.cells (u8s m) 23)).alloc (.cells (u8s s) 22)).alloc (.cells (u8s S) 51)) (w.heap.size + 3) 51 S := by
    rw [show w.heap.size + 3 = (((w.alloc (.cells (u8s o) 23)).alloc (.cells (u8s m) 23)).alloc (.cells (u8s s) 22)).heap.size by simp]; exact heap_alloc_new _ _
  exact ⟨((r0.alloc _).alloc _).alloc _, (r1.alloc _).alloc _, r2.alloc _, r3, ((((Below.refl _ _).alloc (Nat.le_refl _) _).alloc (by simp) _).alloc (by simp; omega) _).alloc (by simp; omega) _⟩
theorem SsSt.upd {w w' w2 : World} {g : Nat} {o m s S : List Nat} (h : SsSt w w' o m s S) (hU : Upd (fun i => i = g) w' w2) (hg : w.heap.size + 3 < g) : SsSt w w2 o m s S :=
  ⟨h.o.other (hU.block _ h.o.lt (by omega)), h.m.other (hU.block _ h.m.lt (by omega)), h.s.other (hU.block _ h.s.lt (by omega)), h.z.other (hU.block _ h.z.lt (by omega)), h.low.trans (hU.below (fun k hk e => by omega) h.low.size)⟩
theorem openL_length {o s C W : List Nat} (hW : W.length = 40) : (openL o s C W).length = 32 := by
  unfold openL
  split
  · rw [List.length_drop, length_unL, hW]
  · simp
set_option maxHeartbeats 4000000 in
set_option maxRecDepth 100000 in
theorem slots_law (w : World) (o m sl s C W : List Nat) (n : Nat) (lo : o.length = 32) (so : ∀ x ∈ o, x < 256) (lm : m.length = 32) (sm : ∀ x ∈ m, x < 256) (lsl : sl.length = 32) (ssl : ∀ x ∈ sl, x < 256)
    (ls : s.length = 32) (ss : ∀ x ∈ s, x < 256) (lC : C.length = 32) (sC : ∀ x ∈ C, x < 256) (lW : W.length = 40) (sW : ∀ x ∈ W, x < 256) (hn : n < 18446744073709551616) :
    Calls Try.prog 11 #[.agg (u8s o), .agg (u8s m), .agg (u8s sl), .agg (u8s (s ++ (C ++ W))), .int .u64 (n : Int)] w fun e w' => e = .returned (.bool true) ∧ Below w.heap.size w w' := by
  have st0 := SsSt.begin w o m sl (s ++ (C ++ W))
  have sS : ∀ x ∈ s ++ (C ++ W), x < 256 := by
    intro x hx
    rcases List.mem_append.1 hx with h | h
    · exact ss x h
    · rcases List.mem_append.1 h with h | h
      · exact sC x h
      · exact sW x h
  have lS : (s ++ (C ++ W)).length = 104 := by simp [ls, lC, lW]
  have co := Lib.hid (fun wx => open_any wx o s C W lo so ls ss lC sC lW sW)
  have ca := Lib.hid (fun wx => as20 wx s C W ls lC lW sS)
  have cr := Lib.hid (fun wx vo vs h1 h2 => open21 wx vo vs o s C W lo sC h1 h2)
  have cv := Lib.hid (fun wx => volume_any wx m n lm sm hn)
  have cm := Lib.hid (fun wx => make_any wx o m sl lo so lm sm lsl ssl)
  have eM := slotL_eq o m sl
  have sMk : ∀ x ∈ slotL o m sl, x < 256 := by
    rw [eM]
    intro x hx
    rcases List.mem_append.1 hx with h | h
    · exact ssl x h
    · rcases List.mem_append.1 h with h | h
      · exact baseK_small _ _ _ x h
      · exact wrapK_small sm x h
  have ca2 := Lib.hid (fun wx => as20 wx sl (baseK o sl nmCheck) (wrapK o m sl) lsl (baseK_length _ _ _) (wrapK_length lm) (by rw [← eM]; exact sMk))
  have cm2 := Lib.hid (fun wx vo vm vs h1 h2 h3 => make21 wx vo vm vs o m sl lo lm lsl h1 h2 h3)
  have cd1 := Lib.hid (fun wx vk (h : TextAt wx vk m) => ref_derive wx vk m ⟨#[111, 110, 101]⟩ n h (by omega) (by decide) hn)
  have cd2 := Lib.hid (fun wx vk (h : TextAt wx vk m) => ref_derive wx vk m ⟨#[116, 119, 111]⟩ n h (by omega) (by decide) hn)
  rw [text_one] at cd1
  rw [text_two] at cd2
  have eo : volK m nmOne n = macs m (nmOne ++ beBytes 8 n ++ [1]) := rfl
  have et : volK m nmTwo n = macs m (nmTwo ++ beBytes 8 n ++ [1]) := rfl
  rw [← eo] at cd1
  rw [← et] at cd2
  have lV1 : (volK m nmOne n).length = 32 := macs_length _ _
  have lV2 : (volK m nmTwo n).length = 32 := macs_length _ _
  have sV1 : ∀ x ∈ volK m nmOne n, x < 256 := macs_small _ _
  have sV2 : ∀ x ∈ volK m nmTwo n, x < 256 := macs_small _ _
  have lL := openL_length (o := o) (s := s) (C := C) lW
  have al := Lib.hid (fun wx => alive21 wx)
  have tx : ∀ w' v, SlotAt w' v sl (baseK o sl nmCheck) (wrapK o m sl) → TextAt w' v (slotL o m sl) := fun w' v h => by rw [eM]; exact h.t
  have sLL : ∀ w' v, TextAt w' v (openL o s C W) → ∀ x ∈ openL o s C W, x < 256 := fun w' v h => h.small
  rw [← eM] at ca2
  clear eo et eM
  generalize wrapK o m sl = MW at *
  generalize baseK o sl nmCheck = MC at *
  generalize slotL o m sl = MS at *
  generalize volK m nmOne n = V1 at *
  generalize volK m nmTwo n = V2 at *
  generalize openL o s C W = LL at *
  generalize openE o s C W = EE at *
  generalize s ++ (C ++ W) = SL at *
  have iO := infoKey lo
  have iM := infoKey lm
  have iA := infoA32 lsl
  have iS := infoSlot lS
  have iL := infoKey lL
  have i1 := infoKey lV1
  have i2 := infoKey lV2
  have zL : (u8s (List.replicate 32 0)).size = (u8s LL).size := by rw [size_u8s, size_u8s, lL]; simp
  have z1 : (u8s (List.replicate 32 0)).size = (u8s V1).size := by rw [size_u8s, size_u8s, lV1]; simp
  have z2 : (u8s (List.replicate 32 0)).size = (u8s V2).size := by rw [size_u8s, size_u8s, lV2]; simp
  replace st0 := Lib.hid st0
  replace sS := Lib.hid sS
  replace lS := Lib.hid lS
  replace sMk := Lib.hid sMk
  replace lo := Lib.hid lo
  replace so := Lib.hid so
  replace lm := Lib.hid lm
  replace sm := Lib.hid sm
  replace lsl := Lib.hid lsl
  replace ssl := Lib.hid ssl
  replace ls := Lib.hid ls
  replace ss := Lib.hid ss
  replace lC := Lib.hid lC
  replace sC := Lib.hid sC
  replace lW := Lib.hid lW
  replace sW := Lib.hid sW
  replace lV1 := Lib.hid lV1
  replace lV2 := Lib.hid lV2
  replace sV1 := Lib.hid sV1
  replace sV2 := Lib.hid sV2
  replace lL := Lib.hid lL
  replace tx := Lib.hid tx
  replace sLL := Lib.hid sLL
  replace iO := Lib.hid iO
  replace iM := Lib.hid iM
  replace iA := Lib.hid iA
  replace iS := Lib.hid iS
  replace iL := Lib.hid iL
  replace i1 := Lib.hid i1
  replace i2 := Lib.hid i2
  replace zL := Lib.hid zL
  replace z1 := Lib.hid z1
  replace z2 := Lib.hid z2
  go_enter Try.func11, Try.ntmps11
  go_wp2_with (first
    | refine wpList_load_b (by rfl) 23 (.tmp 5) rfl w.heap.size rfl 23 o st0.out.o _ Try.underlying23 rfl iO.out ?_
    | refine wpList_load_b (by rfl) 51 (.tmp 8) rfl (w.heap.size + 3) rfl 51 SL st0.out.z _ Try.underlying51 rfl iS.out ?_)
  refine (co.out _).mono ?_
  rintro e w1 ⟨rfl, B1⟩
  have st1 := st0.out.call B1
  clear B1 st0 co
  replace st1 := Lib.hid st1
  go_upto_region 2 with (first
    | (refine wpList_store_n (by rfl) 23 (.tmp 11) (.tmp 21) rfl LL rfl rfl iL.out zL.out ?_; intro w2 R2 B2))
  have st2 := st1.out.call B2.out
  have st2' := st2.call (Below.refl _ _).drew
  have R2' : RowB w2.drew w1.heap.size 23 LL := R2.out
  clear st1 B2 R2 st2
  replace st2' := Lib.hid st2'
  replace R2' := Lib.hid R2'
  refine wp_region_held_drew (S := (fun w' => RowB w' (w.heap.size + 3) 51 SL)) (by kernel_rfl) (st2'.out.z) (fun hHeld => ?_)
  refine held_take (i := 0) (v := ?_) rfl (by kernel_rfl) (by kernel_rfl) (by kernel_rfl) (fun _ _ _ h => h) (Or.inl ⟨by rfl, ?_⟩) (by assumption) ?_
  rotate_left
  · intro w hSw; (try dsimp only at hSw); go_simp; try with_reducible rfl
  try simp only [Act.put, List.setIfInBounds_toArray, List.set_cons_zero, List.set_cons_succ]
  refine held_take (i := 1) (v := _) rfl (by kernel_rfl) (by kernel_rfl) (by kernel_rfl) (fun _ _ _ h => h) (yieldsIf_part (by rfl) rfl rfl SL Try.underlying51 iS.out (fun w' h => row_range (l := SL) h (by simp) (by simp))) (by assumption) ?_
  try simp only [Act.put, List.setIfInBounds_toArray, List.set_cons_zero, List.set_cons_succ]
  refine held_ready (i := 2) rfl (by kernel_rfl) (fun K hK => ?_)
  go_simp
  refine (ca.out _).mono ?_
  rintro e w3 ⟨v3, rfl, S3, B3⟩
  have st3 := st2'.out.call B3
  have R3 := R2'.out.below B3 R2'.out.lt
  clear st2' R2' B3 ca
  replace st3 := Lib.hid st3
  replace R3 := Lib.hid R3
  replace S3 := Lib.hid S3
  refine hK.out _ _ (st3.out.z) (fun hHeldN => ?_)
  clear hHeld hK K
  have hHeld := hHeldN
  clear hHeldN
  try simp only [Act.put, List.setIfInBounds_toArray, List.set_cons_zero, List.set_cons_succ]
  refine held_ready (i := 3) rfl (by kernel_rfl) (fun K hK => ?_)
  go_simp
  refine (cr.out _ _ _ (row_whole st3.out.o so.out lo.out) S3.out).mono ?_
  rintro e w4 ⟨v4, rfl, T4, B4⟩
  have st4 := st3.out.call B4
  have R4 := R3.out.below B4 R3.out.lt
  clear st3 R3 B4 cr S3
  replace st4 := Lib.hid st4
  replace R4 := Lib.hid R4
  replace T4 := Lib.hid T4
  refine hK.out _ _ (st4.out.z) (fun hHeldN => ?_)
  clear hHeld hK K
  have hHeld := hHeldN
  clear hHeldN
  try simp only [Act.put, List.setIfInBounds_toArray, List.set_cons_zero, List.set_cons_succ]
  refine held_take (i := 4) (v := ?_) rfl (by kernel_rfl) (by kernel_rfl) (by kernel_rfl) (fun _ _ _ h => h) (Or.inl ⟨by rfl, ?_⟩) (by assumption) ?_
  rotate_left
  · intro w hSw; (try dsimp only at hSw); go_simp; try with_reducible rfl
  try simp only [Act.put, List.setIfInBounds_toArray, List.set_cons_zero, List.set_cons_succ]
  refine held_take (i := 5) (v := ?_) rfl (by kernel_rfl) (by kernel_rfl) (by kernel_rfl) (fun _ _ _ h => h) (Or.inl ⟨by rfl, ?_⟩) (by assumption) ?_
  rotate_left
  · intro w hSw; (try dsimp only at hSw); go_simp; try with_reducible rfl
  try simp only [Act.put, List.setIfInBounds_toArray, List.set_cons_zero, List.set_cons_succ]
  refine held_take (i := 6) (v := ?_) rfl (by kernel_rfl) (by kernel_rfl) (by kernel_rfl) (fun _ _ _ h => h) (Or.inl ⟨by rfl, ?_⟩) (by assumption) ?_
  rotate_left
  · intro w hSw; (try dsimp only at hSw); go_simp; try with_reducible rfl
  try simp only [Act.put, List.setIfInBounds_toArray, List.set_cons_zero, List.set_cons_succ]
  refine held_take (i := 7) (v := ?_) rfl (by kernel_rfl) (by kernel_rfl) (by kernel_rfl) (fun _ _ _ h => h) (Or.inl ⟨by rfl, ?_⟩) (by assumption) ?_
  rotate_left
  · intro w hSw; (try dsimp only at hSw); go_simp; try with_reducible rfl
  try simp only [Act.put, List.setIfInBounds_toArray, List.set_cons_zero, List.set_cons_succ]
  refine held_take (i := 8) (v := ?_) rfl (by kernel_rfl) (by kernel_rfl) (by kernel_rfl) (fun _ _ _ h => h) (Or.inl ⟨by rfl, ?_⟩) (by assumption) ?_
  rotate_left
  · intro w hSw; (try dsimp only at hSw); go_simp; try with_reducible rfl
  try simp only [Act.put, List.setIfInBounds_toArray, List.set_cons_zero, List.set_cons_succ]
  refine wpAnyH_done (by kernel_rfl) ?_ _
  clear hHeld
  go_wp2_with (first
    | refine wpList_load_b (by rfl) 23 (.tmp 6) rfl (w.heap.size + 1) rfl 23 m st4.out.m _ Try.underlying23 rfl iM.out ?_)
  refine (cv.out _).mono ?_
  rintro e w5 ⟨rfl, B5⟩
  have st5 := st4.out.call B5
  have R5 := R4.out.below B5 R4.out.lt
  have T5 := T4.out.below B5
  clear st4 R4 B5 cv T4
  replace st5 := Lib.hid st5
  replace R5 := Lib.hid R5
  replace T5 := Lib.hid T5
  have bz : Below w5.heap.size w5 ((w5.alloc (.cells (u8s (List.replicate 32 0)) 23)).alloc (.cells (u8s (List.replicate 32 0)) 23)) := ((Below.refl _ _).alloc (Nat.le_refl _) _).alloc (by simp) _
  have r15 : RowB ((w5.alloc (.cells (u8s (List.replicate 32 0)) 23)).alloc (.cells (u8s (List.replicate 32 0)) 23)) w5.heap.size 23 (List.replicate 32 0) := RowB.alloc (heap_alloc_new _ _) _
  have r16 : RowB ((w5.alloc (.cells (u8s (List.replicate 32 0)) 23)).alloc (.cells (u8s (List.replicate 32 0)) 23)) (w5.heap.size + 1) 23 (List.replicate 32 0) := by
    rw [show w5.heap.size + 1 = (w5.alloc (.cells (u8s (List.replicate 32 0)) 23)).heap.size by simp]; exact heap_alloc_new _ _
  replace r15 := Lib.hid r15
  replace r16 := Lib.hid r16
  replace bz := Lib.hid bz
  go_upto_region 4 with (first
    | (refine wpList_store_s (by rfl) 23 (.tmp 15) (.tmp 34) rfl w5.heap.size V1 rfl rfl 23 _ r15.out i1.out z1.out ?_; intro w6 R6 U6
       have b6 := Lib.hid (bz.out.trans (U6.out.below (fun k hk e => by omega) bz.out.size))
       have s16 := Lib.hid (r16.out.other (U6.out.block _ r16.out.lt (by omega))))
    | (refine wpList_store_s (by rfl) 23 (.tmp 16) (.tmp 35) rfl (w5.heap.size + 1) V2 rfl rfl 23 _ s16.out i2.out z2.out ?_; intro w7 R7 U7))
  have b7 := b6.out.trans (U7.out.below (fun k hk e => by omega) b6.out.size)
  have st7 := (st5.out.call b7).call (Below.refl _ _).drew
  have Ra : RowB w7.drew w1.heap.size 23 LL := (R5.out.below b7 R5.out.lt).drew
  have Ta : TextAt w7.drew v4 LL := (T5.out.below b7).drew
  have Rb : RowB w7.drew w5.heap.size 23 V1 := (R6.out.other (U7.out.block _ R6.out.lt (by omega))).drew
  have Rc : RowB w7.drew (w5.heap.size + 1) 23 V2 := R7.out.drew
  clear st5 R5 T5 bz r15 r16 R6 b6 s16 R7 U7 U6 b7
  replace st7 := Lib.hid st7
  replace Ra := Lib.hid Ra
  replace Ta := Lib.hid Ta
  replace Rb := Lib.hid Rb
  replace Rc := Lib.hid Rc
  refine wp_region_held_drew (S := (fun w' => RowB w' w.heap.size 23 o ∧ RowB w' (w.heap.size + 1) 23 m ∧ RowB w' (w.heap.size + 2) 22 sl)) (by kernel_rfl) (⟨st7.out.o, st7.out.m, st7.out.s⟩) (fun hHeld => ?_)
  refine held_take (i := 0) (v := _) rfl (by kernel_rfl) (by kernel_rfl) (by kernel_rfl) (fun _ _ _ h => h) (yieldsIf_row (by rfl) rfl rfl Try.underlying23 iO.out (fun w' h => h.1)) (by assumption) ?_
  try simp only [Act.put, List.setIfInBounds_toArray, List.set_cons_zero, List.set_cons_succ]
  refine held_take (i := 1) (v := _) rfl (by kernel_rfl) (by kernel_rfl) (by kernel_rfl) (fun _ _ _ h => h) (yieldsIf_row (by rfl) rfl rfl Try.underlying23 iM.out (fun w' h => h.2.1)) (by assumption) ?_
  try simp only [Act.put, List.setIfInBounds_toArray, List.set_cons_zero, List.set_cons_succ]
  refine held_take (i := 2) (v := _) rfl (by kernel_rfl) (by kernel_rfl) (by kernel_rfl) (fun _ _ _ h => h) (yieldsIf_row (by rfl) rfl rfl Try.underlying22 iA.out (fun w' h => h.2.2)) (by assumption) ?_
  try simp only [Act.put, List.setIfInBounds_toArray, List.set_cons_zero, List.set_cons_succ]
  refine held_take (i := 6) (v := ?_) rfl (by kernel_rfl) (by kernel_rfl) (by kernel_rfl) (fun _ _ _ h => h) (Or.inl ⟨by rfl, ?_⟩) (by assumption) ?_
  rotate_left
  · intro w hSw; (try dsimp only at hSw); go_simp; try with_reducible rfl
  try simp only [Act.put, List.setIfInBounds_toArray, List.set_cons_zero, List.set_cons_succ]
  refine held_take (i := 7) (v := ?_) rfl (by kernel_rfl) (by kernel_rfl) (by kernel_rfl) (fun _ _ _ h => h) (Or.inl ⟨by rfl, ?_⟩) (by assumption) ?_
  rotate_left
  · intro w hSw; (try dsimp only at hSw); go_simp; try with_reducible rfl
  try simp only [Act.put, List.setIfInBounds_toArray, List.set_cons_zero, List.set_cons_succ]
  refine held_take (i := 8) (v := ?_) rfl (by kernel_rfl) (by kernel_rfl) (by kernel_rfl) (fun _ _ _ h => h) (Or.inl ⟨by rfl, ?_⟩) (by assumption) ?_
  rotate_left
  · intro w hSw; (try dsimp only at hSw); go_simp; try with_reducible rfl
  try simp only [Act.put, List.setIfInBounds_toArray, List.set_cons_zero, List.set_cons_succ]
  refine held_ready (i := 3) rfl (by kernel_rfl) (fun K hK => ?_)
  go_simp
  refine (cm.out _).mono ?_
  rintro e w8 ⟨rfl, B8⟩
  have st8 := st7.out.call B8
  replace Ra := Lib.hid (Ra.out.below B8 Ra.out.lt)
  replace Rb := Lib.hid (Rb.out.below B8 Rb.out.lt)
  replace Rc := Lib.hid (Rc.out.below B8 Rc.out.lt)
  replace Ta := Lib.hid (Ta.out.below B8)
  clear st7 B8 cm
  replace st8 := Lib.hid st8
  refine hK.out _ _ (⟨st8.out.o, st8.out.m, st8.out.s⟩) (fun hHeldN => ?_)
  clear hHeld hK K
  have hHeld := hHeldN
  clear hHeldN
  try simp only [Act.put, List.setIfInBounds_toArray, List.set_cons_zero, List.set_cons_succ]
  refine held_ready (i := 4) rfl (by kernel_rfl) (fun K hK => ?_)
  go_simp
  refine (ca2.out _).mono ?_
  rintro e w9 ⟨v9, rfl, S9, B9⟩
  have st9 := st8.out.call B9
  have TX := tx.out _ _ S9
  replace Ra := Lib.hid (Ra.out.below B9 Ra.out.lt)
  replace Rb := Lib.hid (Rb.out.below B9 Rb.out.lt)
  replace Rc := Lib.hid (Rc.out.below B9 Rc.out.lt)
  replace Ta := Lib.hid (Ta.out.below B9)
  clear st8 B9 ca2 S9
  replace st9 := Lib.hid st9
  replace TX := Lib.hid TX
  refine hK.out _ _ (⟨st9.out.o, st9.out.m, st9.out.s⟩) (fun hHeldN => ?_)
  clear hHeld hK K
  have hHeld := hHeldN
  clear hHeldN
  try simp only [Act.put, List.setIfInBounds_toArray, List.set_cons_zero, List.set_cons_succ]
  refine held_readies2 (i0 := 5) (i1 := 9) rfl rfl (by kernel_rfl) (fun K hK => ?_) (fun K hK => ?_)
  ·
    rw [if_pos (by rfl)]
    refine wp_str rfl rfl TX.out ?_
    refine hK.out _ _ (⟨st9.out.o, st9.out.m, st9.out.s⟩) (fun hHeldN => ?_)
    clear hHeld hK K
    have hHeld := hHeldN
    clear hHeldN
    try simp only [Act.put, List.setIfInBounds_toArray, List.set_cons_zero, List.set_cons_succ]
    refine held_ready (i := 9) rfl (by kernel_rfl) (fun K hK => ?_)
    go_simp
    refine (cm2.out _ _ _ _ (row_whole st9.out.o so.out lo.out) (row_whole st9.out.m sm.out lm.out) (row_whole st9.out.s ssl.out lsl.out)).mono ?_
    rintro e wa ⟨va, rfl, TY, Ba⟩
    replace st9 := Lib.hid (st9.out.call Ba)
    replace Ra := Lib.hid (Ra.out.below Ba Ra.out.lt)
    replace Rb := Lib.hid (Rb.out.below Ba Rb.out.lt)
    replace Rc := Lib.hid (Rc.out.below Ba Rc.out.lt)
    replace Ta := Lib.hid (Ta.out.below Ba)
    replace TX := Lib.hid (TX.out.below Ba)
    replace TY := Lib.hid TY
    clear Ba
    refine hK.out _ _ (⟨st9.out.o, st9.out.m, st9.out.s⟩) (fun hHeldN => ?_)
    clear hHeld hK K
    have hHeld := hHeldN
    clear hHeldN
    try simp only [Act.put, List.setIfInBounds_toArray, List.set_cons_zero, List.set_cons_succ]
    refine held_ready (i := 10) rfl (by kernel_rfl) (fun K hK => ?_)
    rw [if_pos (by rfl)]
    refine wp_str rfl rfl TY.out ?_
    refine hK.out _ _ (⟨st9.out.o, st9.out.m, st9.out.s⟩) (fun hHeldN => ?_)
    clear hHeld hK K
    have hHeld := hHeldN
    clear hHeldN
    try simp only [Act.put, List.setIfInBounds_toArray, List.set_cons_zero, List.set_cons_succ]
    refine held_take (i := 11) (v := ?_) rfl (by kernel_rfl) (by kernel_rfl) (by kernel_rfl) (fun _ _ _ h => h) (Or.inl ⟨by rfl, ?_⟩) (by assumption) ?_
    rotate_left
    · intro w hSw; (try dsimp only at hSw); go_simp; try with_reducible rfl
    try simp only [Act.put, List.setIfInBounds_toArray, List.set_cons_zero, List.set_cons_succ]
    refine wpAnyH_done (by kernel_rfl) ?_ _
    clear hHeld
    clear TX TY cm2
    go_wp2_with fail
    have SL1 := sLL.out _ _ Ta.out
    have Wm := st9.out.m.drew
    have W1 := Ra.out.drew
    have W2 := Ta.out.drew
    have W3 := Rb.out.drew
    have W4 := Rc.out.drew
    have Wl := st9.out.low.drew
    replace SL1 := Lib.hid SL1
    replace Wm := Lib.hid Wm
    replace W1 := Lib.hid W1
    replace W2 := Lib.hid W2
    replace W3 := Lib.hid W3
    replace W4 := Lib.hid W4
    replace Wl := Lib.hid Wl
    clear st9 Ra Ta Rb Rc
    refine wp_region_held_drew (S := (fun w' => RowB w' w1.heap.size 23 LL ∧ TextAt w' v4 LL ∧ RowB w' w5.heap.size 23 V1 ∧ RowB w' (w5.heap.size + 1) 23 V2 ∧ RowB w' (w.heap.size + 1) 23 m)) (by kernel_rfl) (⟨W1.out, W2.out, W3.out, W4.out, Wm.out⟩) (fun hHeld => ?_)
    refine held_ready (i := 0) rfl (by kernel_rfl) (fun K hK => ?_)
    go_simp
    refine (al.out _).mono ?_
    rintro e wb ⟨rfl, Bb⟩
    have F := Lib.hid (show RowB wb w1.heap.size 23 LL ∧ TextAt wb v4 LL ∧ RowB wb w5.heap.size 23 V1 ∧ RowB wb (w5.heap.size + 1) 23 V2 ∧ RowB wb (w.heap.size + 1) 23 m from ⟨W1.out.below Bb W1.out.lt, W2.out.below Bb, W3.out.below Bb W3.out.lt, W4.out.below Bb W4.out.lt, Wm.out.below Bb Wm.out.lt⟩)
    replace Wl := Lib.hid (Wl.out.trans (Bb.mono Wl.out.size))
    clear W1 W2 W3 W4 Wm Bb
    refine hK.out _ _ (F.out) (fun hHeldN => ?_)
    clear hHeld hK K
    have hHeld := hHeldN
    clear hHeldN
    try simp only [Act.put, List.setIfInBounds_toArray, List.set_cons_zero, List.set_cons_succ]
    refine held_take (i := 1) (v := ?_) rfl (by kernel_rfl) (by kernel_rfl) (by kernel_rfl) (fun _ _ _ h => h) (Or.inl ⟨by rfl, ?_⟩) (by assumption) ?_
    rotate_left
    · intro w hSw; (try dsimp only at hSw); go_simp; try with_reducible rfl
    try simp only [Act.put, List.setIfInBounds_toArray, List.set_cons_zero, List.set_cons_succ]
    refine held_take (i := 2) (v := ?_) rfl (by kernel_rfl) (by kernel_rfl) (by kernel_rfl) (fun _ _ _ h => h) (Or.inl ⟨by rfl, ?_⟩) (by assumption) ?_
    rotate_left
    · intro w hSw; (try dsimp only at hSw); go_simp; try with_reducible rfl
    try simp only [Act.put, List.setIfInBounds_toArray, List.set_cons_zero, List.set_cons_succ]
    refine held_take (i := 3) (v := _) rfl (by kernel_rfl) (by kernel_rfl) (by kernel_rfl) (fun _ _ _ h => h) (yieldsIf_str (by rfl) rfl rfl (v := .slice (some ⟨w1.heap.size, 0, none⟩) 32 32) (fun w' h => row_whole h.1 SL1.out lL.out)) (by assumption) ?_
    try simp only [Act.put, List.setIfInBounds_toArray, List.set_cons_zero, List.set_cons_succ]
    refine held_take (i := 4) (v := ?_) rfl (by kernel_rfl) (by kernel_rfl) (by kernel_rfl) (fun _ _ _ h => h) (Or.inl ⟨by rfl, ?_⟩) (by assumption) ?_
    rotate_left
    · intro w hSw; (try dsimp only at hSw); go_simp; try with_reducible rfl
    try simp only [Act.put, List.setIfInBounds_toArray, List.set_cons_zero, List.set_cons_succ]
    refine held_take (i := 5) (v := _) rfl (by kernel_rfl) (by kernel_rfl) (by kernel_rfl) (fun _ _ _ h => h) (yieldsIf_str (by rfl) rfl rfl (v := v4) (fun w' h => h.2.1)) (by assumption) ?_
    try simp only [Act.put, List.setIfInBounds_toArray, List.set_cons_zero, List.set_cons_succ]
    refine held_take (i := 6) (v := ?_) rfl (by kernel_rfl) (by kernel_rfl) (by kernel_rfl) (fun _ _ _ h => h) (Or.inl ⟨by rfl, ?_⟩) (by assumption) ?_
    rotate_left
    · intro w hSw; (try dsimp only at hSw); go_simp; try with_reducible rfl
    try simp only [Act.put, List.setIfInBounds_toArray, List.set_cons_zero, List.set_cons_succ]
    refine held_take (i := 7) (v := ?_) rfl (by kernel_rfl) (by kernel_rfl) (by kernel_rfl) (fun _ _ _ h => h) (Or.inl ⟨by rfl, ?_⟩) (by assumption) ?_
    rotate_left
    · intro w hSw; (try dsimp only at hSw); go_simp; try with_reducible rfl
    try simp only [Act.put, List.setIfInBounds_toArray, List.set_cons_zero, List.set_cons_succ]
    refine held_take (i := 8) (v := ?_) rfl (by kernel_rfl) (by kernel_rfl) (by kernel_rfl) (fun _ _ _ h => h) (Or.inl ⟨by rfl, ?_⟩) (by assumption) ?_
    rotate_left
    · intro w hSw; (try dsimp only at hSw); go_simp; try with_reducible rfl
    try simp only [Act.put, List.setIfInBounds_toArray, List.set_cons_zero, List.set_cons_succ]
    refine held_take (i := 9) (v := ?_) rfl (by kernel_rfl) (by kernel_rfl) (by kernel_rfl) (fun _ _ _ h => h) (Or.inl ⟨by rfl, ?_⟩) (by assumption) ?_
    rotate_left
    · intro w hSw; (try dsimp only at hSw); go_simp; try with_reducible rfl
    try simp only [Act.put, List.setIfInBounds_toArray, List.set_cons_zero, List.set_cons_succ]
    refine held_take (i := 10) (v := ?_) rfl (by kernel_rfl) (by kernel_rfl) (by kernel_rfl) (fun _ _ _ h => h) (Or.inl ⟨by rfl, ?_⟩) (by assumption) ?_
    rotate_left
    · intro w hSw; (try dsimp only at hSw); go_simp; try with_reducible rfl
    try simp only [Act.put, List.setIfInBounds_toArray, List.set_cons_zero, List.set_cons_succ]
    refine held_take (i := 11) (v := ?_) rfl (by kernel_rfl) (by kernel_rfl) (by kernel_rfl) (fun _ _ _ h => h) (Or.inl ⟨by rfl, ?_⟩) (by assumption) ?_
    rotate_left
    · intro w hSw; (try dsimp only at hSw); go_simp; try with_reducible rfl
    try simp only [Act.put, List.setIfInBounds_toArray, List.set_cons_zero, List.set_cons_succ]
    refine held_take (i := 12) (v := ?_) rfl (by kernel_rfl) (by kernel_rfl) (by kernel_rfl) (fun _ _ _ h => h) (Or.inl ⟨by rfl, ?_⟩) (by assumption) ?_
    rotate_left
    · intro w hSw; (try dsimp only at hSw); go_simp; try with_reducible rfl
    try simp only [Act.put, List.setIfInBounds_toArray, List.set_cons_zero, List.set_cons_succ]
    refine held_take (i := 13) (v := ?_) rfl (by kernel_rfl) (by kernel_rfl) (by kernel_rfl) (fun _ _ _ h => h) (Or.inl ⟨by rfl, ?_⟩) (by assumption) ?_
    rotate_left
    · intro w hSw; (try dsimp only at hSw); go_simp; try with_reducible rfl
    try simp only [Act.put, List.setIfInBounds_toArray, List.set_cons_zero, List.set_cons_succ]
    refine held_take (i := 14) (v := ?_) rfl (by kernel_rfl) (by kernel_rfl) (by kernel_rfl) (fun _ _ _ h => h) (Or.inl ⟨by rfl, ?_⟩) (by assumption) ?_
    rotate_left
    · intro w hSw; (try dsimp only at hSw); go_simp; try with_reducible rfl
    try simp only [Act.put, List.setIfInBounds_toArray, List.set_cons_zero, List.set_cons_succ]
    refine held_take (i := 15) (v := _) rfl (by kernel_rfl) (by kernel_rfl) (by kernel_rfl) (fun _ _ _ h => h) (yieldsIf_str (by rfl) rfl rfl (v := .slice (some ⟨w5.heap.size, 0, none⟩) 32 32) (fun w' h => row_whole h.2.2.1 sV1.out lV1.out)) (by assumption) ?_
    try simp only [Act.put, List.setIfInBounds_toArray, List.set_cons_zero, List.set_cons_succ]
    refine held_take (i := 16) (v := ?_) rfl (by kernel_rfl) (by kernel_rfl) (by kernel_rfl) (fun _ _ _ h => h) (Or.inl ⟨by rfl, ?_⟩) (by assumption) ?_
    rotate_left
    · intro w hSw; (try dsimp only at hSw); go_simp; try with_reducible rfl
    try simp only [Act.put, List.setIfInBounds_toArray, List.set_cons_zero, List.set_cons_succ]
    refine held_take (i := 17) (v := ?_) rfl (by kernel_rfl) (by kernel_rfl) (by kernel_rfl) (fun _ _ _ h => h) (Or.inl ⟨by rfl, ?_⟩) (by assumption) ?_
    rotate_left
    · intro w hSw; (try dsimp only at hSw); go_simp; try with_reducible rfl
    try simp only [Act.put, List.setIfInBounds_toArray, List.set_cons_zero, List.set_cons_succ]
    refine held_ready (i := 18) rfl (by kernel_rfl) (fun K hK => ?_)
    go_simp
    refine (cd1.out _ _ (row_whole F.out.2.2.2.2 sm.out lm.out)).mono ?_
    rintro e wc ⟨vc, rfl, Tc, Bc⟩
    replace F := Lib.hid (show RowB wc w1.heap.size 23 LL ∧ TextAt wc v4 LL ∧ RowB wc w5.heap.size 23 V1 ∧ RowB wc (w5.heap.size + 1) 23 V2 ∧ RowB wc (w.heap.size + 1) 23 m from ⟨F.out.1.below Bc F.out.1.lt, F.out.2.1.below Bc, F.out.2.2.1.below Bc F.out.2.2.1.lt, F.out.2.2.2.1.below Bc F.out.2.2.2.1.lt, F.out.2.2.2.2.below Bc F.out.2.2.2.2.lt⟩)
    replace Wl := Lib.hid (Wl.out.trans (Bc.mono Wl.out.size))
    replace Tc := Lib.hid Tc
    clear Bc
    refine hK.out _ _ (F.out) (fun hHeldN => ?_)
    clear hHeld hK K
    have hHeld := hHeldN
    clear hHeldN
    try simp only [Act.put, List.setIfInBounds_toArray, List.set_cons_zero, List.set_cons_succ]
    refine held_ready (i := 19) rfl (by kernel_rfl) (fun K hK => ?_)
    rw [if_pos (by rfl)]
    refine wp_str rfl rfl Tc.out ?_
    refine hK.out _ _ (F.out) (fun hHeldN => ?_)
    clear hHeld hK K
    have hHeld := hHeldN
    clear hHeldN
    try simp only [Act.put, List.setIfInBounds_toArray, List.set_cons_zero, List.set_cons_succ]
    clear Tc
    refine held_take (i := 20) (v := ?_) rfl (by kernel_rfl) (by kernel_rfl) (by kernel_rfl) (fun _ _ _ h => h) (Or.inl ⟨by rfl, ?_⟩) (by assumption) ?_
    rotate_left
    · intro w hSw; (try dsimp only at hSw); go_simp; try with_reducible rfl
    try simp only [Act.put, List.setIfInBounds_toArray, List.set_cons_zero, List.set_cons_succ]
    refine held_take (i := 21) (v := ?_) rfl (by kernel_rfl) (by kernel_rfl) (by kernel_rfl) (fun _ _ _ h => h) (Or.inl ⟨by rfl, ?_⟩) (by assumption) ?_
    rotate_left
    · intro w hSw; (try dsimp only at hSw); go_simp; try with_reducible rfl
    try simp only [Act.put, List.setIfInBounds_toArray, List.set_cons_zero, List.set_cons_succ]
    refine held_take (i := 22) (v := ?_) rfl (by kernel_rfl) (by kernel_rfl) (by kernel_rfl) (fun _ _ _ h => h) (Or.inl ⟨by rfl, ?_⟩) (by assumption) ?_
    rotate_left
    · intro w hSw; (try dsimp only at hSw); go_simp; try with_reducible rfl
    try simp only [Act.put, List.setIfInBounds_toArray, List.set_cons_zero, List.set_cons_succ]
    refine held_take (i := 23) (v := ?_) rfl (by kernel_rfl) (by kernel_rfl) (by kernel_rfl) (fun _ _ _ h => h) (Or.inl ⟨by rfl, ?_⟩) (by assumption) ?_
    rotate_left
    · intro w hSw; (try dsimp only at hSw); go_simp; try with_reducible rfl
    try simp only [Act.put, List.setIfInBounds_toArray, List.set_cons_zero, List.set_cons_succ]
    refine held_take (i := 24) (v := _) rfl (by kernel_rfl) (by kernel_rfl) (by kernel_rfl) (fun _ _ _ h => h) (yieldsIf_str (by rfl) rfl rfl (v := .slice (some ⟨w5.heap.size + 1, 0, none⟩) 32 32) (fun w' h => row_whole h.2.2.2.1 sV2.out lV2.out)) (by assumption) ?_
    try simp only [Act.put, List.setIfInBounds_toArray, List.set_cons_zero, List.set_cons_succ]
    refine held_take (i := 25) (v := ?_) rfl (by kernel_rfl) (by kernel_rfl) (by kernel_rfl) (fun _ _ _ h => h) (Or.inl ⟨by rfl, ?_⟩) (by assumption) ?_
    rotate_left
    · intro w hSw; (try dsimp only at hSw); go_simp; try with_reducible rfl
    try simp only [Act.put, List.setIfInBounds_toArray, List.set_cons_zero, List.set_cons_succ]
    refine held_take (i := 26) (v := ?_) rfl (by kernel_rfl) (by kernel_rfl) (by kernel_rfl) (fun _ _ _ h => h) (Or.inl ⟨by rfl, ?_⟩) (by assumption) ?_
    rotate_left
    · intro w hSw; (try dsimp only at hSw); go_simp; try with_reducible rfl
    try simp only [Act.put, List.setIfInBounds_toArray, List.set_cons_zero, List.set_cons_succ]
    refine held_ready (i := 27) rfl (by kernel_rfl) (fun K hK => ?_)
    go_simp
    refine (cd2.out _ _ (row_whole F.out.2.2.2.2 sm.out lm.out)).mono ?_
    rintro e wd ⟨vd, rfl, Td, Bd⟩
    replace F := Lib.hid (show RowB wd w1.heap.size 23 LL ∧ TextAt wd v4 LL ∧ RowB wd w5.heap.size 23 V1 ∧ RowB wd (w5.heap.size + 1) 23 V2 ∧ RowB wd (w.heap.size + 1) 23 m from ⟨F.out.1.below Bd F.out.1.lt, F.out.2.1.below Bd, F.out.2.2.1.below Bd F.out.2.2.1.lt, F.out.2.2.2.1.below Bd F.out.2.2.2.1.lt, F.out.2.2.2.2.below Bd F.out.2.2.2.2.lt⟩)
    replace Wl := Lib.hid (Wl.out.trans (Bd.mono Wl.out.size))
    replace Td := Lib.hid Td
    clear Bd
    refine hK.out _ _ (F.out) (fun hHeldN => ?_)
    clear hHeld hK K
    have hHeld := hHeldN
    clear hHeldN
    try simp only [Act.put, List.setIfInBounds_toArray, List.set_cons_zero, List.set_cons_succ]
    refine held_ready (i := 28) rfl (by kernel_rfl) (fun K hK => ?_)
    rw [if_pos (by rfl)]
    refine wp_str rfl rfl Td.out ?_
    refine hK.out _ _ (F.out) (fun hHeldN => ?_)
    clear hHeld hK K
    have hHeld := hHeldN
    clear hHeldN
    try simp only [Act.put, List.setIfInBounds_toArray, List.set_cons_zero, List.set_cons_succ]
    refine held_take (i := 29) (v := ?_) rfl (by kernel_rfl) (by kernel_rfl) (by kernel_rfl) (fun _ _ _ h => h) (Or.inl ⟨by rfl, ?_⟩) (by assumption) ?_
    rotate_left
    · intro w hSw; (try dsimp only at hSw); go_simp; try with_reducible rfl
    try simp only [Act.put, List.setIfInBounds_toArray, List.set_cons_zero, List.set_cons_succ]
    refine held_take (i := 30) (v := ?_) rfl (by kernel_rfl) (by kernel_rfl) (by kernel_rfl) (fun _ _ _ h => h) (Or.inl ⟨by rfl, ?_⟩) (by assumption) ?_
    rotate_left
    · intro w hSw; (try dsimp only at hSw); go_simp; try with_reducible rfl
    try simp only [Act.put, List.setIfInBounds_toArray, List.set_cons_zero, List.set_cons_succ]
    refine held_take (i := 31) (v := ?_) rfl (by kernel_rfl) (by kernel_rfl) (by kernel_rfl) (fun _ _ _ h => h) (Or.inl ⟨by rfl, ?_⟩) (by assumption) ?_
    rotate_left
    · intro w hSw; (try dsimp only at hSw); go_simp; try with_reducible rfl
    try simp only [Act.put, List.setIfInBounds_toArray, List.set_cons_zero, List.set_cons_succ]
    refine wpAnyH_done (by kernel_rfl) ?_ _
    clear hHeld
    go_wp2_with fail
    go_ret
    exact ⟨rfl, Wl.out⟩
  ·
    go_simp
    refine (cm2.out _ _ _ _ (row_whole st9.out.o so.out lo.out) (row_whole st9.out.m sm.out lm.out) (row_whole st9.out.s ssl.out lsl.out)).mono ?_
    rintro e wa ⟨va, rfl, TY, Ba⟩
    replace st9 := Lib.hid (st9.out.call Ba)
    replace Ra := Lib.hid (Ra.out.below Ba Ra.out.lt)
    replace Rb := Lib.hid (Rb.out.below Ba Rb.out.lt)
    replace Rc := Lib.hid (Rc.out.below Ba Rc.out.lt)
    replace Ta := Lib.hid (Ta.out.below Ba)
    replace TX := Lib.hid (TX.out.below Ba)
    replace TY := Lib.hid TY
    clear Ba
    refine hK.out _ _ (⟨st9.out.o, st9.out.m, st9.out.s⟩) (fun hHeldN => ?_)
    clear hHeld hK K
    have hHeld := hHeldN
    clear hHeldN
    try simp only [Act.put, List.setIfInBounds_toArray, List.set_cons_zero, List.set_cons_succ]
    refine held_readies2 (i0 := 5) (i1 := 10) rfl rfl (by kernel_rfl) (fun K hK => ?_) (fun K hK => ?_)
    ·
      rw [if_pos (by rfl)]
      refine wp_str rfl rfl TX.out ?_
      refine hK.out _ _ (⟨st9.out.o, st9.out.m, st9.out.s⟩) (fun hHeldN => ?_)
      clear hHeld hK K
      have hHeld := hHeldN
      clear hHeldN
      try simp only [Act.put, List.setIfInBounds_toArray, List.set_cons_zero, List.set_cons_succ]
      refine held_ready (i := 10) rfl (by kernel_rfl) (fun K hK => ?_)
      rw [if_pos (by rfl)]
      refine wp_str rfl rfl TY.out ?_
      refine hK.out _ _ (⟨st9.out.o, st9.out.m, st9.out.s⟩) (fun hHeldN => ?_)
      clear hHeld hK K
      have hHeld := hHeldN
      clear hHeldN
      try simp only [Act.put, List.setIfInBounds_toArray, List.set_cons_zero, List.set_cons_succ]
      refine held_take (i := 11) (v := ?_) rfl (by kernel_rfl) (by kernel_rfl) (by kernel_rfl) (fun _ _ _ h => h) (Or.inl ⟨by rfl, ?_⟩) (by assumption) ?_
      rotate_left
      · intro w hSw; (try dsimp only at hSw); go_simp; try with_reducible rfl
      try simp only [Act.put, List.setIfInBounds_toArray, List.set_cons_zero, List.set_cons_succ]
      refine wpAnyH_done (by kernel_rfl) ?_ _
      clear hHeld
      clear TX TY cm2
      go_wp2_with fail
      have SL1 := sLL.out _ _ Ta.out
      have Wm := st9.out.m.drew
      have W1 := Ra.out.drew
      have W2 := Ta.out.drew
      have W3 := Rb.out.drew
      have W4 := Rc.out.drew
      have Wl := st9.out.low.drew
      replace SL1 := Lib.hid SL1
      replace Wm := Lib.hid Wm
      replace W1 := Lib.hid W1
      replace W2 := Lib.hid W2
      replace W3 := Lib.hid W3
      replace W4 := Lib.hid W4
      replace Wl := Lib.hid Wl
      clear st9 Ra Ta Rb Rc
      refine wp_region_held_drew (S := (fun w' => RowB w' w1.heap.size 23 LL ∧ TextAt w' v4 LL ∧ RowB w' w5.heap.size 23 V1 ∧ RowB w' (w5.heap.size + 1) 23 V2 ∧ RowB w' (w.heap.size + 1) 23 m)) (by kernel_rfl) (⟨W1.out, W2.out, W3.out, W4.out, Wm.out⟩) (fun hHeld => ?_)
      refine held_ready (i := 0) rfl (by kernel_rfl) (fun K hK => ?_)
      go_simp
      refine (al.out _).mono ?_
      rintro e wb ⟨rfl, Bb⟩
      have F := Lib.hid (show RowB wb w1.heap.size 23 LL ∧ TextAt wb v4 LL ∧ RowB wb w5.heap.size 23 V1 ∧ RowB wb (w5.heap.size + 1) 23 V2 ∧ RowB wb (w.heap.size + 1) 23 m from ⟨W1.out.below Bb W1.out.lt, W2.out.below Bb, W3.out.below Bb W3.out.lt, W4.out.below Bb W4.out.lt, Wm.out.below Bb Wm.out.lt⟩)
      replace Wl := Lib.hid (Wl.out.trans (Bb.mono Wl.out.size))
      clear W1 W2 W3 W4 Wm Bb
      refine hK.out _ _ (F.out) (fun hHeldN => ?_)
      clear hHeld hK K
      have hHeld := hHeldN
      clear hHeldN
      try simp only [Act.put, List.setIfInBounds_toArray, List.set_cons_zero, List.set_cons_succ]
      refine held_take (i := 1) (v := ?_) rfl (by kernel_rfl) (by kernel_rfl) (by kernel_rfl) (fun _ _ _ h => h) (Or.inl ⟨by rfl, ?_⟩) (by assumption) ?_
      rotate_left
      · intro w hSw; (try dsimp only at hSw); go_simp; try with_reducible rfl
      try simp only [Act.put, List.setIfInBounds_toArray, List.set_cons_zero, List.set_cons_succ]
      refine held_take (i := 2) (v := ?_) rfl (by kernel_rfl) (by kernel_rfl) (by kernel_rfl) (fun _ _ _ h => h) (Or.inl ⟨by rfl, ?_⟩) (by assumption) ?_
      rotate_left
      · intro w hSw; (try dsimp only at hSw); go_simp; try with_reducible rfl
      try simp only [Act.put, List.setIfInBounds_toArray, List.set_cons_zero, List.set_cons_succ]
      refine held_take (i := 3) (v := _) rfl (by kernel_rfl) (by kernel_rfl) (by kernel_rfl) (fun _ _ _ h => h) (yieldsIf_str (by rfl) rfl rfl (v := .slice (some ⟨w1.heap.size, 0, none⟩) 32 32) (fun w' h => row_whole h.1 SL1.out lL.out)) (by assumption) ?_
      try simp only [Act.put, List.setIfInBounds_toArray, List.set_cons_zero, List.set_cons_succ]
      refine held_take (i := 4) (v := ?_) rfl (by kernel_rfl) (by kernel_rfl) (by kernel_rfl) (fun _ _ _ h => h) (Or.inl ⟨by rfl, ?_⟩) (by assumption) ?_
      rotate_left
      · intro w hSw; (try dsimp only at hSw); go_simp; try with_reducible rfl
      try simp only [Act.put, List.setIfInBounds_toArray, List.set_cons_zero, List.set_cons_succ]
      refine held_take (i := 5) (v := _) rfl (by kernel_rfl) (by kernel_rfl) (by kernel_rfl) (fun _ _ _ h => h) (yieldsIf_str (by rfl) rfl rfl (v := v4) (fun w' h => h.2.1)) (by assumption) ?_
      try simp only [Act.put, List.setIfInBounds_toArray, List.set_cons_zero, List.set_cons_succ]
      refine held_take (i := 6) (v := ?_) rfl (by kernel_rfl) (by kernel_rfl) (by kernel_rfl) (fun _ _ _ h => h) (Or.inl ⟨by rfl, ?_⟩) (by assumption) ?_
      rotate_left
      · intro w hSw; (try dsimp only at hSw); go_simp; try with_reducible rfl
      try simp only [Act.put, List.setIfInBounds_toArray, List.set_cons_zero, List.set_cons_succ]
      refine held_take (i := 7) (v := ?_) rfl (by kernel_rfl) (by kernel_rfl) (by kernel_rfl) (fun _ _ _ h => h) (Or.inl ⟨by rfl, ?_⟩) (by assumption) ?_
      rotate_left
      · intro w hSw; (try dsimp only at hSw); go_simp; try with_reducible rfl
      try simp only [Act.put, List.setIfInBounds_toArray, List.set_cons_zero, List.set_cons_succ]
      refine held_take (i := 8) (v := ?_) rfl (by kernel_rfl) (by kernel_rfl) (by kernel_rfl) (fun _ _ _ h => h) (Or.inl ⟨by rfl, ?_⟩) (by assumption) ?_
      rotate_left
      · intro w hSw; (try dsimp only at hSw); go_simp; try with_reducible rfl
      try simp only [Act.put, List.setIfInBounds_toArray, List.set_cons_zero, List.set_cons_succ]
      refine held_take (i := 9) (v := ?_) rfl (by kernel_rfl) (by kernel_rfl) (by kernel_rfl) (fun _ _ _ h => h) (Or.inl ⟨by rfl, ?_⟩) (by assumption) ?_
      rotate_left
      · intro w hSw; (try dsimp only at hSw); go_simp; try with_reducible rfl
      try simp only [Act.put, List.setIfInBounds_toArray, List.set_cons_zero, List.set_cons_succ]
      refine held_take (i := 10) (v := ?_) rfl (by kernel_rfl) (by kernel_rfl) (by kernel_rfl) (fun _ _ _ h => h) (Or.inl ⟨by rfl, ?_⟩) (by assumption) ?_
      rotate_left
      · intro w hSw; (try dsimp only at hSw); go_simp; try with_reducible rfl
      try simp only [Act.put, List.setIfInBounds_toArray, List.set_cons_zero, List.set_cons_succ]
      refine held_take (i := 11) (v := ?_) rfl (by kernel_rfl) (by kernel_rfl) (by kernel_rfl) (fun _ _ _ h => h) (Or.inl ⟨by rfl, ?_⟩) (by assumption) ?_
      rotate_left
      · intro w hSw; (try dsimp only at hSw); go_simp; try with_reducible rfl
      try simp only [Act.put, List.setIfInBounds_toArray, List.set_cons_zero, List.set_cons_succ]
      refine held_take (i := 12) (v := ?_) rfl (by kernel_rfl) (by kernel_rfl) (by kernel_rfl) (fun _ _ _ h => h) (Or.inl ⟨by rfl, ?_⟩) (by assumption) ?_
      rotate_left
      · intro w hSw; (try dsimp only at hSw); go_simp; try with_reducible rfl
      try simp only [Act.put, List.setIfInBounds_toArray, List.set_cons_zero, List.set_cons_succ]
      refine held_take (i := 13) (v := ?_) rfl (by kernel_rfl) (by kernel_rfl) (by kernel_rfl) (fun _ _ _ h => h) (Or.inl ⟨by rfl, ?_⟩) (by assumption) ?_
      rotate_left
      · intro w hSw; (try dsimp only at hSw); go_simp; try with_reducible rfl
      try simp only [Act.put, List.setIfInBounds_toArray, List.set_cons_zero, List.set_cons_succ]
      refine held_take (i := 14) (v := ?_) rfl (by kernel_rfl) (by kernel_rfl) (by kernel_rfl) (fun _ _ _ h => h) (Or.inl ⟨by rfl, ?_⟩) (by assumption) ?_
      rotate_left
      · intro w hSw; (try dsimp only at hSw); go_simp; try with_reducible rfl
      try simp only [Act.put, List.setIfInBounds_toArray, List.set_cons_zero, List.set_cons_succ]
      refine held_take (i := 15) (v := _) rfl (by kernel_rfl) (by kernel_rfl) (by kernel_rfl) (fun _ _ _ h => h) (yieldsIf_str (by rfl) rfl rfl (v := .slice (some ⟨w5.heap.size, 0, none⟩) 32 32) (fun w' h => row_whole h.2.2.1 sV1.out lV1.out)) (by assumption) ?_
      try simp only [Act.put, List.setIfInBounds_toArray, List.set_cons_zero, List.set_cons_succ]
      refine held_take (i := 16) (v := ?_) rfl (by kernel_rfl) (by kernel_rfl) (by kernel_rfl) (fun _ _ _ h => h) (Or.inl ⟨by rfl, ?_⟩) (by assumption) ?_
      rotate_left
      · intro w hSw; (try dsimp only at hSw); go_simp; try with_reducible rfl
      try simp only [Act.put, List.setIfInBounds_toArray, List.set_cons_zero, List.set_cons_succ]
      refine held_take (i := 17) (v := ?_) rfl (by kernel_rfl) (by kernel_rfl) (by kernel_rfl) (fun _ _ _ h => h) (Or.inl ⟨by rfl, ?_⟩) (by assumption) ?_
      rotate_left
      · intro w hSw; (try dsimp only at hSw); go_simp; try with_reducible rfl
      try simp only [Act.put, List.setIfInBounds_toArray, List.set_cons_zero, List.set_cons_succ]
      refine held_ready (i := 18) rfl (by kernel_rfl) (fun K hK => ?_)
      go_simp
      refine (cd1.out _ _ (row_whole F.out.2.2.2.2 sm.out lm.out)).mono ?_
      rintro e wc ⟨vc, rfl, Tc, Bc⟩
      replace F := Lib.hid (show RowB wc w1.heap.size 23 LL ∧ TextAt wc v4 LL ∧ RowB wc w5.heap.size 23 V1 ∧ RowB wc (w5.heap.size + 1) 23 V2 ∧ RowB wc (w.heap.size + 1) 23 m from ⟨F.out.1.below Bc F.out.1.lt, F.out.2.1.below Bc, F.out.2.2.1.below Bc F.out.2.2.1.lt, F.out.2.2.2.1.below Bc F.out.2.2.2.1.lt, F.out.2.2.2.2.below Bc F.out.2.2.2.2.lt⟩)
      replace Wl := Lib.hid (Wl.out.trans (Bc.mono Wl.out.size))
      replace Tc := Lib.hid Tc
      clear Bc
      refine hK.out _ _ (F.out) (fun hHeldN => ?_)
      clear hHeld hK K
      have hHeld := hHeldN
      clear hHeldN
      try simp only [Act.put, List.setIfInBounds_toArray, List.set_cons_zero, List.set_cons_succ]
      refine held_ready (i := 19) rfl (by kernel_rfl) (fun K hK => ?_)
      rw [if_pos (by rfl)]
      refine wp_str rfl rfl Tc.out ?_
      refine hK.out _ _ (F.out) (fun hHeldN => ?_)
      clear hHeld hK K
      have hHeld := hHeldN
      clear hHeldN
      try simp only [Act.put, List.setIfInBounds_toArray, List.set_cons_zero, List.set_cons_succ]
      clear Tc
      refine held_take (i := 20) (v := ?_) rfl (by kernel_rfl) (by kernel_rfl) (by kernel_rfl) (fun _ _ _ h => h) (Or.inl ⟨by rfl, ?_⟩) (by assumption) ?_
      rotate_left
      · intro w hSw; (try dsimp only at hSw); go_simp; try with_reducible rfl
      try simp only [Act.put, List.setIfInBounds_toArray, List.set_cons_zero, List.set_cons_succ]
      refine held_take (i := 21) (v := ?_) rfl (by kernel_rfl) (by kernel_rfl) (by kernel_rfl) (fun _ _ _ h => h) (Or.inl ⟨by rfl, ?_⟩) (by assumption) ?_
      rotate_left
      · intro w hSw; (try dsimp only at hSw); go_simp; try with_reducible rfl
      try simp only [Act.put, List.setIfInBounds_toArray, List.set_cons_zero, List.set_cons_succ]
      refine held_take (i := 22) (v := ?_) rfl (by kernel_rfl) (by kernel_rfl) (by kernel_rfl) (fun _ _ _ h => h) (Or.inl ⟨by rfl, ?_⟩) (by assumption) ?_
      rotate_left
      · intro w hSw; (try dsimp only at hSw); go_simp; try with_reducible rfl
      try simp only [Act.put, List.setIfInBounds_toArray, List.set_cons_zero, List.set_cons_succ]
      refine held_take (i := 23) (v := ?_) rfl (by kernel_rfl) (by kernel_rfl) (by kernel_rfl) (fun _ _ _ h => h) (Or.inl ⟨by rfl, ?_⟩) (by assumption) ?_
      rotate_left
      · intro w hSw; (try dsimp only at hSw); go_simp; try with_reducible rfl
      try simp only [Act.put, List.setIfInBounds_toArray, List.set_cons_zero, List.set_cons_succ]
      refine held_take (i := 24) (v := _) rfl (by kernel_rfl) (by kernel_rfl) (by kernel_rfl) (fun _ _ _ h => h) (yieldsIf_str (by rfl) rfl rfl (v := .slice (some ⟨w5.heap.size + 1, 0, none⟩) 32 32) (fun w' h => row_whole h.2.2.2.1 sV2.out lV2.out)) (by assumption) ?_
      try simp only [Act.put, List.setIfInBounds_toArray, List.set_cons_zero, List.set_cons_succ]
      refine held_take (i := 25) (v := ?_) rfl (by kernel_rfl) (by kernel_rfl) (by kernel_rfl) (fun _ _ _ h => h) (Or.inl ⟨by rfl, ?_⟩) (by assumption) ?_
      rotate_left
      · intro w hSw; (try dsimp only at hSw); go_simp; try with_reducible rfl
      try simp only [Act.put, List.setIfInBounds_toArray, List.set_cons_zero, List.set_cons_succ]
      refine held_take (i := 26) (v := ?_) rfl (by kernel_rfl) (by kernel_rfl) (by kernel_rfl) (fun _ _ _ h => h) (Or.inl ⟨by rfl, ?_⟩) (by assumption) ?_
      rotate_left
      · intro w hSw; (try dsimp only at hSw); go_simp; try with_reducible rfl
      try simp only [Act.put, List.setIfInBounds_toArray, List.set_cons_zero, List.set_cons_succ]
      refine held_ready (i := 27) rfl (by kernel_rfl) (fun K hK => ?_)
      go_simp
      refine (cd2.out _ _ (row_whole F.out.2.2.2.2 sm.out lm.out)).mono ?_
      rintro e wd ⟨vd, rfl, Td, Bd⟩
      replace F := Lib.hid (show RowB wd w1.heap.size 23 LL ∧ TextAt wd v4 LL ∧ RowB wd w5.heap.size 23 V1 ∧ RowB wd (w5.heap.size + 1) 23 V2 ∧ RowB wd (w.heap.size + 1) 23 m from ⟨F.out.1.below Bd F.out.1.lt, F.out.2.1.below Bd, F.out.2.2.1.below Bd F.out.2.2.1.lt, F.out.2.2.2.1.below Bd F.out.2.2.2.1.lt, F.out.2.2.2.2.below Bd F.out.2.2.2.2.lt⟩)
      replace Wl := Lib.hid (Wl.out.trans (Bd.mono Wl.out.size))
      replace Td := Lib.hid Td
      clear Bd
      refine hK.out _ _ (F.out) (fun hHeldN => ?_)
      clear hHeld hK K
      have hHeld := hHeldN
      clear hHeldN
      try simp only [Act.put, List.setIfInBounds_toArray, List.set_cons_zero, List.set_cons_succ]
      refine held_ready (i := 28) rfl (by kernel_rfl) (fun K hK => ?_)
      rw [if_pos (by rfl)]
      refine wp_str rfl rfl Td.out ?_
      refine hK.out _ _ (F.out) (fun hHeldN => ?_)
      clear hHeld hK K
      have hHeld := hHeldN
      clear hHeldN
      try simp only [Act.put, List.setIfInBounds_toArray, List.set_cons_zero, List.set_cons_succ]
      refine held_take (i := 29) (v := ?_) rfl (by kernel_rfl) (by kernel_rfl) (by kernel_rfl) (fun _ _ _ h => h) (Or.inl ⟨by rfl, ?_⟩) (by assumption) ?_
      rotate_left
      · intro w hSw; (try dsimp only at hSw); go_simp; try with_reducible rfl
      try simp only [Act.put, List.setIfInBounds_toArray, List.set_cons_zero, List.set_cons_succ]
      refine held_take (i := 30) (v := ?_) rfl (by kernel_rfl) (by kernel_rfl) (by kernel_rfl) (fun _ _ _ h => h) (Or.inl ⟨by rfl, ?_⟩) (by assumption) ?_
      rotate_left
      · intro w hSw; (try dsimp only at hSw); go_simp; try with_reducible rfl
      try simp only [Act.put, List.setIfInBounds_toArray, List.set_cons_zero, List.set_cons_succ]
      refine held_take (i := 31) (v := ?_) rfl (by kernel_rfl) (by kernel_rfl) (by kernel_rfl) (fun _ _ _ h => h) (Or.inl ⟨by rfl, ?_⟩) (by assumption) ?_
      rotate_left
      · intro w hSw; (try dsimp only at hSw); go_simp; try with_reducible rfl
      try simp only [Act.put, List.setIfInBounds_toArray, List.set_cons_zero, List.set_cons_succ]
      refine wpAnyH_done (by kernel_rfl) ?_ _
      clear hHeld
      go_wp2_with fail
      go_ret
      exact ⟨rfl, Wl.out⟩
    ·
      rw [if_pos (by rfl)]
      refine wp_str rfl rfl TY.out ?_
      refine hK.out _ _ (⟨st9.out.o, st9.out.m, st9.out.s⟩) (fun hHeldN => ?_)
      clear hHeld hK K
      have hHeld := hHeldN
      clear hHeldN
      try simp only [Act.put, List.setIfInBounds_toArray, List.set_cons_zero, List.set_cons_succ]
      refine held_ready (i := 5) rfl (by kernel_rfl) (fun K hK => ?_)
      rw [if_pos (by rfl)]
      refine wp_str rfl rfl TX.out ?_
      refine hK.out _ _ (⟨st9.out.o, st9.out.m, st9.out.s⟩) (fun hHeldN => ?_)
      clear hHeld hK K
      have hHeld := hHeldN
      clear hHeldN
      try simp only [Act.put, List.setIfInBounds_toArray, List.set_cons_zero, List.set_cons_succ]
      refine held_take (i := 11) (v := ?_) rfl (by kernel_rfl) (by kernel_rfl) (by kernel_rfl) (fun _ _ _ h => h) (Or.inl ⟨by rfl, ?_⟩) (by assumption) ?_
      rotate_left
      · intro w hSw; (try dsimp only at hSw); go_simp; try with_reducible rfl
      try simp only [Act.put, List.setIfInBounds_toArray, List.set_cons_zero, List.set_cons_succ]
      refine wpAnyH_done (by kernel_rfl) ?_ _
      clear hHeld
      clear TX TY cm2
      go_wp2_with fail
      have SL1 := sLL.out _ _ Ta.out
      have Wm := st9.out.m.drew
      have W1 := Ra.out.drew
      have W2 := Ta.out.drew
      have W3 := Rb.out.drew
      have W4 := Rc.out.drew
      have Wl := st9.out.low.drew
      replace SL1 := Lib.hid SL1
      replace Wm := Lib.hid Wm
      replace W1 := Lib.hid W1
      replace W2 := Lib.hid W2
      replace W3 := Lib.hid W3
      replace W4 := Lib.hid W4
      replace Wl := Lib.hid Wl
      clear st9 Ra Ta Rb Rc
      refine wp_region_held_drew (S := (fun w' => RowB w' w1.heap.size 23 LL ∧ TextAt w' v4 LL ∧ RowB w' w5.heap.size 23 V1 ∧ RowB w' (w5.heap.size + 1) 23 V2 ∧ RowB w' (w.heap.size + 1) 23 m)) (by kernel_rfl) (⟨W1.out, W2.out, W3.out, W4.out, Wm.out⟩) (fun hHeld => ?_)
      refine held_ready (i := 0) rfl (by kernel_rfl) (fun K hK => ?_)
      go_simp
      refine (al.out _).mono ?_
      rintro e wb ⟨rfl, Bb⟩
      have F := Lib.hid (show RowB wb w1.heap.size 23 LL ∧ TextAt wb v4 LL ∧ RowB wb w5.heap.size 23 V1 ∧ RowB wb (w5.heap.size + 1) 23 V2 ∧ RowB wb (w.heap.size + 1) 23 m from ⟨W1.out.below Bb W1.out.lt, W2.out.below Bb, W3.out.below Bb W3.out.lt, W4.out.below Bb W4.out.lt, Wm.out.below Bb Wm.out.lt⟩)
      replace Wl := Lib.hid (Wl.out.trans (Bb.mono Wl.out.size))
      clear W1 W2 W3 W4 Wm Bb
      refine hK.out _ _ (F.out) (fun hHeldN => ?_)
      clear hHeld hK K
      have hHeld := hHeldN
      clear hHeldN
      try simp only [Act.put, List.setIfInBounds_toArray, List.set_cons_zero, List.set_cons_succ]
      refine held_take (i := 1) (v := ?_) rfl (by kernel_rfl) (by kernel_rfl) (by kernel_rfl) (fun _ _ _ h => h) (Or.inl ⟨by rfl, ?_⟩) (by assumption) ?_
      rotate_left
      · intro w hSw; (try dsimp only at hSw); go_simp; try with_reducible rfl
      try simp only [Act.put, List.setIfInBounds_toArray, List.set_cons_zero, List.set_cons_succ]
      refine held_take (i := 2) (v := ?_) rfl (by kernel_rfl) (by kernel_rfl) (by kernel_rfl) (fun _ _ _ h => h) (Or.inl ⟨by rfl, ?_⟩) (by assumption) ?_
      rotate_left
      · intro w hSw; (try dsimp only at hSw); go_simp; try with_reducible rfl
      try simp only [Act.put, List.setIfInBounds_toArray, List.set_cons_zero, List.set_cons_succ]
      refine held_take (i := 3) (v := _) rfl (by kernel_rfl) (by kernel_rfl) (by kernel_rfl) (fun _ _ _ h => h) (yieldsIf_str (by rfl) rfl rfl (v := .slice (some ⟨w1.heap.size, 0, none⟩) 32 32) (fun w' h => row_whole h.1 SL1.out lL.out)) (by assumption) ?_
      try simp only [Act.put, List.setIfInBounds_toArray, List.set_cons_zero, List.set_cons_succ]
      refine held_take (i := 4) (v := ?_) rfl (by kernel_rfl) (by kernel_rfl) (by kernel_rfl) (fun _ _ _ h => h) (Or.inl ⟨by rfl, ?_⟩) (by assumption) ?_
      rotate_left
      · intro w hSw; (try dsimp only at hSw); go_simp; try with_reducible rfl
      try simp only [Act.put, List.setIfInBounds_toArray, List.set_cons_zero, List.set_cons_succ]
      refine held_take (i := 5) (v := _) rfl (by kernel_rfl) (by kernel_rfl) (by kernel_rfl) (fun _ _ _ h => h) (yieldsIf_str (by rfl) rfl rfl (v := v4) (fun w' h => h.2.1)) (by assumption) ?_
      try simp only [Act.put, List.setIfInBounds_toArray, List.set_cons_zero, List.set_cons_succ]
      refine held_take (i := 6) (v := ?_) rfl (by kernel_rfl) (by kernel_rfl) (by kernel_rfl) (fun _ _ _ h => h) (Or.inl ⟨by rfl, ?_⟩) (by assumption) ?_
      rotate_left
      · intro w hSw; (try dsimp only at hSw); go_simp; try with_reducible rfl
      try simp only [Act.put, List.setIfInBounds_toArray, List.set_cons_zero, List.set_cons_succ]
      refine held_take (i := 7) (v := ?_) rfl (by kernel_rfl) (by kernel_rfl) (by kernel_rfl) (fun _ _ _ h => h) (Or.inl ⟨by rfl, ?_⟩) (by assumption) ?_
      rotate_left
      · intro w hSw; (try dsimp only at hSw); go_simp; try with_reducible rfl
      try simp only [Act.put, List.setIfInBounds_toArray, List.set_cons_zero, List.set_cons_succ]
      refine held_take (i := 8) (v := ?_) rfl (by kernel_rfl) (by kernel_rfl) (by kernel_rfl) (fun _ _ _ h => h) (Or.inl ⟨by rfl, ?_⟩) (by assumption) ?_
      rotate_left
      · intro w hSw; (try dsimp only at hSw); go_simp; try with_reducible rfl
      try simp only [Act.put, List.setIfInBounds_toArray, List.set_cons_zero, List.set_cons_succ]
      refine held_take (i := 9) (v := ?_) rfl (by kernel_rfl) (by kernel_rfl) (by kernel_rfl) (fun _ _ _ h => h) (Or.inl ⟨by rfl, ?_⟩) (by assumption) ?_
      rotate_left
      · intro w hSw; (try dsimp only at hSw); go_simp; try with_reducible rfl
      try simp only [Act.put, List.setIfInBounds_toArray, List.set_cons_zero, List.set_cons_succ]
      refine held_take (i := 10) (v := ?_) rfl (by kernel_rfl) (by kernel_rfl) (by kernel_rfl) (fun _ _ _ h => h) (Or.inl ⟨by rfl, ?_⟩) (by assumption) ?_
      rotate_left
      · intro w hSw; (try dsimp only at hSw); go_simp; try with_reducible rfl
      try simp only [Act.put, List.setIfInBounds_toArray, List.set_cons_zero, List.set_cons_succ]
      refine held_take (i := 11) (v := ?_) rfl (by kernel_rfl) (by kernel_rfl) (by kernel_rfl) (fun _ _ _ h => h) (Or.inl ⟨by rfl, ?_⟩) (by assumption) ?_
      rotate_left
      · intro w hSw; (try dsimp only at hSw); go_simp; try with_reducible rfl
      try simp only [Act.put, List.setIfInBounds_toArray, List.set_cons_zero, List.set_cons_succ]
      refine held_take (i := 12) (v := ?_) rfl (by kernel_rfl) (by kernel_rfl) (by kernel_rfl) (fun _ _ _ h => h) (Or.inl ⟨by rfl, ?_⟩) (by assumption) ?_
      rotate_left
      · intro w hSw; (try dsimp only at hSw); go_simp; try with_reducible rfl
      try simp only [Act.put, List.setIfInBounds_toArray, List.set_cons_zero, List.set_cons_succ]
      refine held_take (i := 13) (v := ?_) rfl (by kernel_rfl) (by kernel_rfl) (by kernel_rfl) (fun _ _ _ h => h) (Or.inl ⟨by rfl, ?_⟩) (by assumption) ?_
      rotate_left
      · intro w hSw; (try dsimp only at hSw); go_simp; try with_reducible rfl
      try simp only [Act.put, List.setIfInBounds_toArray, List.set_cons_zero, List.set_cons_succ]
      refine held_take (i := 14) (v := ?_) rfl (by kernel_rfl) (by kernel_rfl) (by kernel_rfl) (fun _ _ _ h => h) (Or.inl ⟨by rfl, ?_⟩) (by assumption) ?_
      rotate_left
      · intro w hSw; (try dsimp only at hSw); go_simp; try with_reducible rfl
      try simp only [Act.put, List.setIfInBounds_toArray, List.set_cons_zero, List.set_cons_succ]
      refine held_take (i := 15) (v := _) rfl (by kernel_rfl) (by kernel_rfl) (by kernel_rfl) (fun _ _ _ h => h) (yieldsIf_str (by rfl) rfl rfl (v := .slice (some ⟨w5.heap.size, 0, none⟩) 32 32) (fun w' h => row_whole h.2.2.1 sV1.out lV1.out)) (by assumption) ?_
      try simp only [Act.put, List.setIfInBounds_toArray, List.set_cons_zero, List.set_cons_succ]
      refine held_take (i := 16) (v := ?_) rfl (by kernel_rfl) (by kernel_rfl) (by kernel_rfl) (fun _ _ _ h => h) (Or.inl ⟨by rfl, ?_⟩) (by assumption) ?_
      rotate_left
      · intro w hSw; (try dsimp only at hSw); go_simp; try with_reducible rfl
      try simp only [Act.put, List.setIfInBounds_toArray, List.set_cons_zero, List.set_cons_succ]
      refine held_take (i := 17) (v := ?_) rfl (by kernel_rfl) (by kernel_rfl) (by kernel_rfl) (fun _ _ _ h => h) (Or.inl ⟨by rfl, ?_⟩) (by assumption) ?_
      rotate_left
      · intro w hSw; (try dsimp only at hSw); go_simp; try with_reducible rfl
      try simp only [Act.put, List.setIfInBounds_toArray, List.set_cons_zero, List.set_cons_succ]
      refine held_ready (i := 18) rfl (by kernel_rfl) (fun K hK => ?_)
      go_simp
      refine (cd1.out _ _ (row_whole F.out.2.2.2.2 sm.out lm.out)).mono ?_
      rintro e wc ⟨vc, rfl, Tc, Bc⟩
      replace F := Lib.hid (show RowB wc w1.heap.size 23 LL ∧ TextAt wc v4 LL ∧ RowB wc w5.heap.size 23 V1 ∧ RowB wc (w5.heap.size + 1) 23 V2 ∧ RowB wc (w.heap.size + 1) 23 m from ⟨F.out.1.below Bc F.out.1.lt, F.out.2.1.below Bc, F.out.2.2.1.below Bc F.out.2.2.1.lt, F.out.2.2.2.1.below Bc F.out.2.2.2.1.lt, F.out.2.2.2.2.below Bc F.out.2.2.2.2.lt⟩)
      replace Wl := Lib.hid (Wl.out.trans (Bc.mono Wl.out.size))
      replace Tc := Lib.hid Tc
      clear Bc
      refine hK.out _ _ (F.out) (fun hHeldN => ?_)
      clear hHeld hK K
      have hHeld := hHeldN
      clear hHeldN
      try simp only [Act.put, List.setIfInBounds_toArray, List.set_cons_zero, List.set_cons_succ]
      refine held_ready (i := 19) rfl (by kernel_rfl) (fun K hK => ?_)
      rw [if_pos (by rfl)]
      refine wp_str rfl rfl Tc.out ?_
      refine hK.out _ _ (F.out) (fun hHeldN => ?_)
      clear hHeld hK K
      have hHeld := hHeldN
      clear hHeldN
      try simp only [Act.put, List.setIfInBounds_toArray, List.set_cons_zero, List.set_cons_succ]
      clear Tc
      refine held_take (i := 20) (v := ?_) rfl (by kernel_rfl) (by kernel_rfl) (by kernel_rfl) (fun _ _ _ h => h) (Or.inl ⟨by rfl, ?_⟩) (by assumption) ?_
      rotate_left
      · intro w hSw; (try dsimp only at hSw); go_simp; try with_reducible rfl
      try simp only [Act.put, List.setIfInBounds_toArray, List.set_cons_zero, List.set_cons_succ]
      refine held_take (i := 21) (v := ?_) rfl (by kernel_rfl) (by kernel_rfl) (by kernel_rfl) (fun _ _ _ h => h) (Or.inl ⟨by rfl, ?_⟩) (by assumption) ?_
      rotate_left
      · intro w hSw; (try dsimp only at hSw); go_simp; try with_reducible rfl
      try simp only [Act.put, List.setIfInBounds_toArray, List.set_cons_zero, List.set_cons_succ]
      refine held_take (i := 22) (v := ?_) rfl (by kernel_rfl) (by kernel_rfl) (by kernel_rfl) (fun _ _ _ h => h) (Or.inl ⟨by rfl, ?_⟩) (by assumption) ?_
      rotate_left
      · intro w hSw; (try dsimp only at hSw); go_simp; try with_reducible rfl
      try simp only [Act.put, List.setIfInBounds_toArray, List.set_cons_zero, List.set_cons_succ]
      refine held_take (i := 23) (v := ?_) rfl (by kernel_rfl) (by kernel_rfl) (by kernel_rfl) (fun _ _ _ h => h) (Or.inl ⟨by rfl, ?_⟩) (by assumption) ?_
      rotate_left
      · intro w hSw; (try dsimp only at hSw); go_simp; try with_reducible rfl
      try simp only [Act.put, List.setIfInBounds_toArray, List.set_cons_zero, List.set_cons_succ]
      refine held_take (i := 24) (v := _) rfl (by kernel_rfl) (by kernel_rfl) (by kernel_rfl) (fun _ _ _ h => h) (yieldsIf_str (by rfl) rfl rfl (v := .slice (some ⟨w5.heap.size + 1, 0, none⟩) 32 32) (fun w' h => row_whole h.2.2.2.1 sV2.out lV2.out)) (by assumption) ?_
      try simp only [Act.put, List.setIfInBounds_toArray, List.set_cons_zero, List.set_cons_succ]
      refine held_take (i := 25) (v := ?_) rfl (by kernel_rfl) (by kernel_rfl) (by kernel_rfl) (fun _ _ _ h => h) (Or.inl ⟨by rfl, ?_⟩) (by assumption) ?_
      rotate_left
      · intro w hSw; (try dsimp only at hSw); go_simp; try with_reducible rfl
      try simp only [Act.put, List.setIfInBounds_toArray, List.set_cons_zero, List.set_cons_succ]
      refine held_take (i := 26) (v := ?_) rfl (by kernel_rfl) (by kernel_rfl) (by kernel_rfl) (fun _ _ _ h => h) (Or.inl ⟨by rfl, ?_⟩) (by assumption) ?_
      rotate_left
      · intro w hSw; (try dsimp only at hSw); go_simp; try with_reducible rfl
      try simp only [Act.put, List.setIfInBounds_toArray, List.set_cons_zero, List.set_cons_succ]
      refine held_ready (i := 27) rfl (by kernel_rfl) (fun K hK => ?_)
      go_simp
      refine (cd2.out _ _ (row_whole F.out.2.2.2.2 sm.out lm.out)).mono ?_
      rintro e wd ⟨vd, rfl, Td, Bd⟩
      replace F := Lib.hid (show RowB wd w1.heap.size 23 LL ∧ TextAt wd v4 LL ∧ RowB wd w5.heap.size 23 V1 ∧ RowB wd (w5.heap.size + 1) 23 V2 ∧ RowB wd (w.heap.size + 1) 23 m from ⟨F.out.1.below Bd F.out.1.lt, F.out.2.1.below Bd, F.out.2.2.1.below Bd F.out.2.2.1.lt, F.out.2.2.2.1.below Bd F.out.2.2.2.1.lt, F.out.2.2.2.2.below Bd F.out.2.2.2.2.lt⟩)
      replace Wl := Lib.hid (Wl.out.trans (Bd.mono Wl.out.size))
      replace Td := Lib.hid Td
      clear Bd
      refine hK.out _ _ (F.out) (fun hHeldN => ?_)
      clear hHeld hK K
      have hHeld := hHeldN
      clear hHeldN
      try simp only [Act.put, List.setIfInBounds_toArray, List.set_cons_zero, List.set_cons_succ]
      refine held_ready (i := 28) rfl (by kernel_rfl) (fun K hK => ?_)
      rw [if_pos (by rfl)]
      refine wp_str rfl rfl Td.out ?_
      refine hK.out _ _ (F.out) (fun hHeldN => ?_)
      clear hHeld hK K
      have hHeld := hHeldN
      clear hHeldN
      try simp only [Act.put, List.setIfInBounds_toArray, List.set_cons_zero, List.set_cons_succ]
      refine held_take (i := 29) (v := ?_) rfl (by kernel_rfl) (by kernel_rfl) (by kernel_rfl) (fun _ _ _ h => h) (Or.inl ⟨by rfl, ?_⟩) (by assumption) ?_
      rotate_left
      · intro w hSw; (try dsimp only at hSw); go_simp; try with_reducible rfl
      try simp only [Act.put, List.setIfInBounds_toArray, List.set_cons_zero, List.set_cons_succ]
      refine held_take (i := 30) (v := ?_) rfl (by kernel_rfl) (by kernel_rfl) (by kernel_rfl) (fun _ _ _ h => h) (Or.inl ⟨by rfl, ?_⟩) (by assumption) ?_
      rotate_left
      · intro w hSw; (try dsimp only at hSw); go_simp; try with_reducible rfl
      try simp only [Act.put, List.setIfInBounds_toArray, List.set_cons_zero, List.set_cons_succ]
      refine held_take (i := 31) (v := ?_) rfl (by kernel_rfl) (by kernel_rfl) (by kernel_rfl) (fun _ _ _ h => h) (Or.inl ⟨by rfl, ?_⟩) (by assumption) ?_
      rotate_left
      · intro w hSw; (try dsimp only at hSw); go_simp; try with_reducible rfl
      try simp only [Act.put, List.setIfInBounds_toArray, List.set_cons_zero, List.set_cons_succ]
      refine wpAnyH_done (by kernel_rfl) ?_ _
      clear hHeld
      go_wp2_with fail
      go_ret
      exact ⟨rfl, Wl.out⟩
end Go.Proofs.Ytecmagenlbnchaa
