/-
  The reference of layer 17: Hold, Claim. Condition: the blocks are its own; no extent is held too often.
-/
import Derived.Test.YtjhfoddhpmmjoaaDoorRefE3
namespace Go.Proofs.YtjhfoddhpmmjoaaDoor
set_option maxRecDepth 100000
open Go.RowKit
theorem name_w {K : Act → World → Prop} {a : Act} {x : World} (h : ∀ wn, Hid (wn = x) → K a wn) : K a x := h x rfl
section
variable {w : World} {c cl n : Nat} {L : Nat → Nat} {T : Nat → Ten}
theorem ints_up {w : World} {cl n : Nat} {L : Nat → Nat} (h : w.heap[cl]? = some (.cells (intsC (fun i => (L i : Int)) n) 3 (0, 0))) (i v : Nat) :
    (w.setCell ⟨cl, i, none⟩ (.int .i64 (v : Int))).heap[cl]? = some (.cells (intsC (fun j => (up L i v j : Int)) n) 3 (0, 0)) := by
  rw [heap_setCell_same _ _ _ _ _ _ h, intsC_up]
  congr 3
  funext k
  unfold upI up
  split <;> rfl
theorem RefE.putL (h : RefE w c cl n L T) (i v : Nat) (hg : Good n (up L i v) T) : RefE (w.setCell ⟨cl, i, none⟩ (.int .i64 (v : Int))) c cl n (up L i v) T ∧ Upd (TwoQ c cl) w (w.setCell ⟨cl, i, none⟩ (.int .i64 (v : Int))) := by
  have hU : Upd (fun k => k = cl) w (w.setCell ⟨cl, i, none⟩ (.int .i64 (v : Int))) := (Upd.refl _ w).setCell ⟨cl, i, none⟩ _ (fun _ => rfl)
  exact ⟨⟨hU.at h.f h.ne, ints_up h.ints i v, h.ne, hg, h.small, h.lo⟩, two_l hU⟩
theorem hold1E_lt {n : Nat} {L : Nat → Nat} {x : Nat} (hn : x < n) (hb : L x < 2147483647) : hold1E n L x = if L x = 0 then 7 else 0 := by
  unfold hold1E
  rw [if_neg (by omega), holdRes_lt hn, if_neg (show ¬ L x = 2147483647 by omega)]
set_option maxHeartbeats 4000000 in
set_option maxRecDepth 100000 in
theorem qhold_any (h : RefE w c cl n L T) (x : Nat) (hx : x < 4294967296) (hb : L x < 2147483647) :
    Calls Tryd.prog 58 #[.pointer (some ⟨c, 0, none⟩), .int .u32 (x : Int)] w (RSays c cl n (hold1L n L x) T (hold1E n L x) w) := by
  have ct := Lib.hid (qthere_any h x hx)
  have c0 := h.l
  have hg := h.good.hold1 x
  by_cases hn : x < n
  · have eE := hold1E_lt hn hb
    have eL : hold1L n L x = if hold1E n L x = 0 then up L x (L x + 1) else L := rfl
    rw [decide_eq_true hn] at ct
    have cx := h.at hn
    have d0 : 0 ≤ (x : Int) ∧ (x : Int) < (n : Int) := by omega
    by_cases hL : L x = 0
    · rw [if_pos hL] at eE
      rw [eE, if_neg (by decide)] at eL
      rw [eE, eL]
      rw [hL, show ((0 : Nat) : Int) = 0 from rfl] at cx
      replace h := Lib.hid h
      replace hg := Lib.hid hg
      replace eE := Lib.hid eE
      replace eL := Lib.hid eL
      clear hL
      go_enter Tryd.func58, Tryd.ntmps58
      go_wp2_with fail
      refine ct.out.mono ?_
      rintro e _ ⟨rfl, rfl⟩
      go_wp2_with fail
      go_ret
      exact ⟨rfl, h.out, Upd.refl _ _⟩
    · rw [if_neg hL] at eE
      rw [eE, if_pos rfl] at eL
      rw [eL] at hg
      rw [eE, eL]
      have d1 : ((L x : Int) == 0) = false := beq_eq_false_iff_ne.2 (by omega)
      have d2 : IntKind.i64.wrap ((L x : Int) + 1) = (L x : Int) + 1 := IntWalk.i64_in _ (by omega)
      have P := h.putL x (L x + 1) hg
      have z0 := h.frozenL x
      have ex : ((L x + 1 : Nat) : Int) = (L x : Int) + 1 := by omega
      rw [ex] at P
      have R := P.1.drew
      have U := P.2.drew
      have q0 := R.l
      have q1 := R.at hn
      rw [up_same, ex] at q1
      clear P
      replace h := Lib.hid h
      replace hg := Lib.hid hg
      replace eE := Lib.hid eE
      replace eL := Lib.hid eL
      replace R := Lib.hid R
      replace U := Lib.hid U
      replace ex := Lib.hid ex
      clear hL
      go_enter Tryd.func58, Tryd.ntmps58
      go_wp2_with fail
      refine ct.out.mono ?_
      rintro e _ ⟨rfl, rfl⟩
      go_wp2_with fail
      refine wp_region_held_drew (S := (fun w' => w'.cell? ⟨c, 0, none⟩ = some (.slice (some ⟨cl, 0, none⟩) n n))) (by kernel_rfl) (c0) (fun hHeld => ?_)
      refine held_take (i := 0) (v := ?_) rfl (by kernel_rfl) (by kernel_rfl) (by kernel_rfl) (fun _ _ _ h => h) (Or.inl ⟨by rfl, ?_⟩) (by assumption) ?_
      rotate_left
      · intro w hSw; (try dsimp only at hSw); go_simp; try with_reducible rfl
      try simp only [Act.put, List.setIfInBounds_toArray, List.set_cons_zero, List.set_cons_succ]
      refine held_take (i := 1) (v := ?_) rfl (by kernel_rfl) (by kernel_rfl) (by kernel_rfl) (fun _ _ _ h => h) (Or.inl ⟨by rfl, ?_⟩) (by assumption) ?_
      rotate_left
      · intro w hSw; (try dsimp only at hSw); go_simp; try with_reducible rfl
      try simp only [Act.put, List.setIfInBounds_toArray, List.set_cons_zero, List.set_cons_succ]
      refine held_take (i := 2) (v := ?_) rfl (by kernel_rfl) (by kernel_rfl) (by kernel_rfl) (fun _ _ _ h => h) (Or.inl ⟨by rfl, ?_⟩) (by assumption) ?_
      rotate_left
      · intro w hSw; (try dsimp only at hSw); go_simp; try with_reducible rfl
      try simp only [Act.put, List.setIfInBounds_toArray, List.set_cons_zero, List.set_cons_succ]
      refine held_take (i := 3) (v := ?_) rfl (by kernel_rfl) (by kernel_rfl) (by kernel_rfl) (fun _ _ _ h => h) (Or.inl ⟨by rfl, ?_⟩) (by assumption) ?_
      rotate_left
      · intro w hSw; (try dsimp only at hSw); go_simp; try with_reducible rfl
      try simp only [Act.put, List.setIfInBounds_toArray, List.set_cons_zero, List.set_cons_succ]
      refine held_take (i := 4) (v := ?_) rfl (by kernel_rfl) (by kernel_rfl) (by kernel_rfl) (fun _ _ _ h => h) (Or.inl ⟨by rfl, ?_⟩) (by assumption) ?_
      rotate_left
      · intro w hSw; (try dsimp only at hSw); go_simp; try with_reducible rfl
      try simp only [Act.put, List.setIfInBounds_toArray, List.set_cons_zero, List.set_cons_succ]
      refine held_take (i := 5) (v := ?_) rfl (by kernel_rfl) (by kernel_rfl) (by kernel_rfl) (fun _ _ _ h => h) (Or.inl ⟨by rfl, ?_⟩) (by assumption) ?_
      rotate_left
      · intro w hSw; (try dsimp only at hSw); go_simp; try with_reducible rfl
      try simp only [Act.put, List.setIfInBounds_toArray, List.set_cons_zero, List.set_cons_succ]
      refine held_take (i := 6) (v := ?_) rfl (by kernel_rfl) (by kernel_rfl) (by kernel_rfl) (fun _ _ _ h => h) (Or.inl ⟨by rfl, ?_⟩) (by assumption) ?_
      rotate_left
      · intro w hSw; (try dsimp only at hSw); go_simp; try with_reducible rfl
      try simp only [Act.put, List.setIfInBounds_toArray, List.set_cons_zero, List.set_cons_succ]
      refine held_take (i := 7) (v := ?_) rfl (by kernel_rfl) (by kernel_rfl) (by kernel_rfl) (fun _ _ _ h => h) (Or.inl ⟨by rfl, ?_⟩) (by assumption) ?_
      rotate_left
      · intro w hSw; (try dsimp only at hSw); go_simp; try with_reducible rfl
      try simp only [Act.put, List.setIfInBounds_toArray, List.set_cons_zero, List.set_cons_succ]
      refine held_take (i := 8) (v := ?_) rfl (by kernel_rfl) (by kernel_rfl) (by kernel_rfl) (fun _ _ _ h => h) (Or.inl ⟨by rfl, ?_⟩) (by assumption) ?_
      rotate_left
      · intro w hSw; (try dsimp only at hSw); go_simp; try with_reducible rfl
      try simp only [Act.put, List.setIfInBounds_toArray, List.set_cons_zero, List.set_cons_succ]
      refine held_take (i := 9) (v := ?_) rfl (by kernel_rfl) (by kernel_rfl) (by kernel_rfl) (fun _ _ _ h => h) (Or.inl ⟨by rfl, ?_⟩) (by assumption) ?_
      rotate_left
      · intro w hSw; (try dsimp only at hSw); go_simp; try with_reducible rfl
      try simp only [Act.put, List.setIfInBounds_toArray, List.set_cons_zero, List.set_cons_succ]
      refine held_take (i := 10) (v := ?_) rfl (by kernel_rfl) (by kernel_rfl) (by kernel_rfl) (fun _ _ _ h => h) (Or.inl ⟨by rfl, ?_⟩) (by assumption) ?_
      rotate_left
      · intro w hSw; (try dsimp only at hSw); go_simp; try with_reducible rfl
      try simp only [Act.put, List.setIfInBounds_toArray, List.set_cons_zero, List.set_cons_succ]
      refine held_ready (i := 11) rfl (by kernel_rfl) (fun K hK => ?_)
      go_simp
      refine hK.out _ _ (c0) (fun hHeldN => ?_)
      clear hHeld hK K
      have hHeld := hHeldN
      clear hHeldN
      try simp only [Act.put, List.setIfInBounds_toArray, List.set_cons_zero, List.set_cons_succ]
      refine held_take (i := 12) (v := ?_) rfl (by kernel_rfl) (by kernel_rfl) (by kernel_rfl) (fun _ _ _ h => h) (Or.inl ⟨by rfl, ?_⟩) (by assumption) ?_
      rotate_left
      · intro w hSw; (try dsimp only at hSw); go_simp; try with_reducible rfl
      try simp only [Act.put, List.setIfInBounds_toArray, List.set_cons_zero, List.set_cons_succ]
      refine held_take (i := 13) (v := ?_) rfl (by kernel_rfl) (by kernel_rfl) (by kernel_rfl) (fun _ _ _ h => h) (Or.inl ⟨by rfl, ?_⟩) (by assumption) ?_
      rotate_left
      · intro w hSw; (try dsimp only at hSw); go_simp; try with_reducible rfl
      try simp only [Act.put, List.setIfInBounds_toArray, List.set_cons_zero, List.set_cons_succ]
      refine held_ready (i := 14) rfl (by kernel_rfl) (fun K hK => ?_)
      go_simp
      refine hK.out _ _ (q0) (fun hHeldN => ?_)
      clear hHeld hK K
      have hHeld := hHeldN
      clear hHeldN
      try simp only [Act.put]
      refine wpAnyH_done (by kernel_rfl) ?_ _
      clear hHeld
      go_wp2_with fail
      go_ret
      exact ⟨rfl, R.out, U.out⟩
  · have eE : hold1E n L x = 1 := by unfold hold1E; rw [if_pos (by omega)]
    have eL : hold1L n L x = L := by unfold hold1L; rw [if_neg (by rw [eE]; decide)]
    rw [eE, eL]
    rw [decide_eq_false hn] at ct
    replace h := Lib.hid h
    replace hg := Lib.hid hg
    replace eE := Lib.hid eE
    replace eL := Lib.hid eL
    go_enter Tryd.func58, Tryd.ntmps58
    go_wp2_with fail
    refine ct.out.mono ?_
    rintro e _ ⟨rfl, rfl⟩
    go_wp2_with fail
    go_ret
    exact ⟨rfl, h.out, Upd.refl _ _⟩
end
end Go.Proofs.YtjhfoddhpmmjoaaDoor
