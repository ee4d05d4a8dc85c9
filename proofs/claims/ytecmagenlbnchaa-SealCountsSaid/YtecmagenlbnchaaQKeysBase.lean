/-
  keys: the key of an outer key, a salt and a name. Conditions: texts of 32 bytes.
-/
import Derived.Test.YtecmagenlbnchaaQKeysPlain
import Derived.Test.YtecmagenlbnchaaQRefStream
namespace Go.Proofs.Ytecmagenlbnchaa
set_option maxRecDepth 100000
open Go.RowKit

theorem row_whole {w : World} {b ty : Nat} {t : List Nat} (h : RowB w b ty t) (hs : ∀ x ∈ t, x < 256) {n : Nat} (hn : t.length = n) : TextAt w (.slice (some ⟨b, 0, none⟩) n n) t := by
  subst hn
  refine ⟨some ⟨b, 0, none⟩, t.length, rfl, Nat.le_refl _, fun e => by simp at e, fun i hi => ⟨byt_lt hs i, b, 0, rfl, ?_⟩⟩
  rw [Nat.zero_add]
  exact h.cell (i := i) (x := byt t i) (by simp [byt, List.getD, hi])
structure BaseSt (w w' : World) (o s : List Nat) : Prop where
  o : RowB w' w.heap.size 23 o
  s : RowB w' (w.heap.size + 1) 22 s
  z : RowB w' (w.heap.size + 2) 23 (List.replicate 32 0)
  low : Below w.heap.size w w'
theorem BaseSt.call {w w' w2 : World} {o s : List Nat} (h : BaseSt w w' o s) (hB : Below w'.heap.size w' w2) : BaseSt w w2 o s :=
  ⟨h.o.below hB h.o.lt, h.s.below hB h.s.lt, h.z.below hB h.z.lt, h.low.trans (hB.mono h.low.size)⟩
theorem BaseSt.begin (w : World) (o s : List Nat) : BaseSt w (((w.alloc (.cells (u8s o) 23)).alloc (.cells (u8s s) 22)).alloc (.cells (u8s (List.replicate 32 0)) 23)).drew o s := by
  have r0 : RowB (w.alloc (.cells (u8s o) 23)) w.heap.size 23 o := heap_alloc_new _ _
  have r1 : RowB ((w.alloc (.cells (u8s o) 23)).alloc (.cells (u8s s) 22)) (w.heap.size + 1) 22 s := by
    rw [show w.heap.size + 1 = (w.alloc (.cells (u8s o) 23)).heap.size by simp]; exact heap_alloc_new _ _
  have r2 : RowB (((w.alloc (.cells (u8s o) 23)).alloc (.cells (u8s s) 22)).alloc (.cells (u8s (List.replicate 32 0)) 23)) (w.heap.size + 2) 23 (List.replicate 32 0) := by
    rw [show w.heap.size + 2 = ((w.alloc (.cells (u8s o) 23)).alloc (.cells (u8s s) 22)).heap.size by simp]; exact heap_alloc_new _ _
  exact ⟨((r0.alloc _).alloc _).drew, (r1.alloc _).drew, r2.drew, ((((Below.refl _ _).alloc (Nat.le_refl _) _).alloc (by simp) _).alloc (by simp; omega) _).drew⟩
set_option maxHeartbeats 4000000 in
set_option maxRecDepth 100000 in
theorem base_any (w : World) (outer salt name : List Nat) (s : ByteArray) (ho : outer.length = 32) (so : ∀ x ∈ outer, x < 256) (hs : salt.length = 32) (ss : ∀ x ∈ salt, x < 256) (en : textOf s = name) (hn : s.size < 900000) :
    Calls Try.prog 41 #[.agg (u8s outer), .agg (u8s salt), .string s] w fun e w' => e = .returned (.agg (u8s (baseK outer salt name))) ∧ Below w.heap.size w w' := by
  have st0 := BaseSt.begin w outer salt
  have ce := extract_text (((w.alloc (.cells (u8s outer) 23)).alloc (.cells (u8s salt) 22)).alloc (.cells (u8s (List.replicate 32 0)) 23)).drew _ _ salt outer (row_whole st0.s ss hs) (row_whole st0.o so ho) (by omega) (by omega)
  have cd := fun wx => derive_any wx (macs salt outer) s 0 (macs_length _ _) (macs_small _ _) hn
  rw [en] at cd
  have e0 : macs (macs salt outer) (name ++ beBytes 8 0 ++ [1]) = baseK outer salt name := rfl
  simp only [e0, Int.natCast_zero] at cd
  have iB := info_key (baseK outer salt name) (baseK_length _ _ _)
  have zB : (u8s (List.replicate 32 0)).size = (u8s (baseK outer salt name)).size := by simp [u8s, baseK_length]
  clear e0
  generalize baseK outer salt name = KK at *
  generalize macs salt outer = X at *
  replace so := Lib.hid so
  replace ss := Lib.hid ss
  replace ho := Lib.hid ho
  replace hs := Lib.hid hs
  replace st0 := Lib.hid st0
  replace ce := Lib.hid ce
  replace cd := Lib.hid cd
  replace en := Lib.hid en
  go_enter Try.func41, Try.ntmps41
  go_wp2_with fail
  refine wp_region_held_drew (S := (fun _ => True)) (by kernel_rfl) (trivial) (fun hHeld => ?_)
  refine held_take (i := 0) (v := ?_) rfl (by kernel_rfl) (by kernel_rfl) (by kernel_rfl) (fun _ _ _ h => h) (Or.inl ⟨by rfl, ?_⟩) (by assumption) ?_
  rotate_left
  · intro w hSw; (try dsimp only at hSw); go_simp; try with_reducible rfl
  try simp only [Act.put, List.setIfInBounds_toArray, List.set_cons_zero, List.set_cons_succ]
  refine held_take (i := 1) (v := ?_) rfl (by kernel_rfl) (by kernel_rfl) (by kernel_rfl) (fun _ _ _ h => h) (Or.inl ⟨by rfl, ?_⟩) (by assumption) ?_
  rotate_left
  · intro w hSw; (try dsimp only at hSw); go_simp; try with_reducible rfl
  try simp only [Act.put, List.setIfInBounds_toArray, List.set_cons_zero, List.set_cons_succ]
  refine held_take (i := 3) (v := ?_) rfl (by kernel_rfl) (by kernel_rfl) (by kernel_rfl) (fun _ _ _ h => h) (Or.inl ⟨by rfl, ?_⟩) (by assumption) ?_
  rotate_left
  · intro w hSw; (try dsimp only at hSw); go_simp; try with_reducible rfl
  try simp only [Act.put, List.setIfInBounds_toArray, List.set_cons_zero, List.set_cons_succ]
  refine held_ready (i := 2) rfl (by kernel_rfl) (fun K hK => ?_)
  go_simp
  refine ce.out.mono ?_
  rintro e w1 ⟨rfl, B1⟩
  have st1 := st0.out.call B1
  clear B1 ce
  replace st1 := Lib.hid st1
  refine hK.out _ _ (trivial) (fun hHeldN => ?_)
  clear hHeld hK K
  have hHeld := hHeldN
  clear hHeldN
  try simp only [Act.put, List.setIfInBounds_toArray, List.set_cons_zero, List.set_cons_succ]
  refine held_ready (i := 4) rfl (by kernel_rfl) (fun K hK => ?_)
  go_simp
  refine (cd.out w1).mono ?_
  rintro e w2 ⟨rfl, B2⟩
  have st2 := st1.out.call B2
  have z2 := st2.z
  replace B2 := Lib.hid B2
  replace st2 := Lib.hid st2
  refine hK.out _ _ (trivial) (fun hHeldN => ?_)
  clear hHeld hK K
  have hHeld := hHeldN
  clear hHeldN
  try simp only [Act.put, List.setIfInBounds_toArray, List.set_cons_zero, List.set_cons_succ]
  refine held_ready (i := 5) rfl (by kernel_rfl) (fun K hK => ?_)
  rw [if_pos (by rfl)]
  refine wp_store_s 23 (.tmp 6) (.tmp 11) rfl (w.heap.size + 2) KK rfl rfl 23 _ z2 iB zB ?_
  intro w3 R3 U3
  refine hK.out _ _ (trivial) (fun hHeldN => ?_)
  clear hHeld hK K
  have hHeld := hHeldN
  clear hHeldN
  try simp only [Act.put]
  refine wpAnyH_done (by kernel_rfl) ?_ _
  clear hHeld
  have iB' := Lib.hid iB
  clear iB zB
  replace R3 := Lib.hid R3
  replace U3 := Lib.hid U3
  go_wp2_with fail
  have iB := iB'.out
  replace R3 := R3.out
  replace U3 := U3.out
  refine ret_row rfl rfl (w.heap.size + 2) 23 _ (0, 0) _ rfl R3.out Try.underlying23 rfl iB ⟨rfl, ?_⟩
  exact st2.out.low.trans (U3.out.below (fun k hk e => by omega) st2.out.low.size)
end Go.Proofs.Ytecmagenlbnchaa
