/-
  The reference of layer 17: Drop. Condition: the blocks are its own.
-/
import Derived.Test.YtjhfoddhpmmjoaaDoorRefE5
namespace Go.Proofs.YtjhfoddhpmmjoaaDoor
set_option maxRecDepth 100000
open Go.RowKit
section
variable {w : World} {c cl n : Nat} {L : Nat → Nat} {T : Nat → Ten}
set_option maxHeartbeats 4000000 in
set_option maxRecDepth 100000 in
theorem qdrop_any (h : RefE w c cl n L T) (t : Int) (x : Nat) (hx : x < 4294967296) (hb : L x < 2147483647) :
    Calls Tryd.prog 59 #[.pointer (some ⟨c, 0, none⟩), .int .i64 t, .int .u32 (x : Int)] w (RSays c cl n (dropL1 n L T t x) (dropT n L T t x) (dropE n L T t x) w) := by
  have ct := Lib.hid (qthere_any h x hx)
  have ci := qin_any h t
  have c0 := h.l
  have hg := h.good.drop t x
  have hlim := h.good.lim t.toNat
  have hsm := h.small
  by_cases hn : x < n
  · rw [decide_eq_true hn] at ct
    have cx := h.at hn
    have d0 : 0 ≤ (x : Int) ∧ (x : Int) < (n : Int) := by omega
    cases hi : isIn T t with
    | false =>
      rw [hi] at ci
      have eE : dropE n L T t x = 51 := by unfold dropE; rw [if_neg (by omega), if_pos hi]
      have eL : dropL1 n L T t x = L := by unfold dropL1; rw [if_neg (by rw [eE]; decide)]
      have eT : dropT n L T t x = T := by unfold dropT; rw [if_neg (fun e => by rw [eE] at e; omega)]
      rw [eE, eL, eT]
      replace h := Lib.hid h
      replace hg := Lib.hid hg
      replace eE := Lib.hid eE
      replace eL := Lib.hid eL
      replace eT := Lib.hid eT
      replace ci := Lib.hid ci
      replace hi := Lib.hid hi
      go_enter Tryd.func59, Tryd.ntmps59
      go_wp2_with fail
      refine ct.out.mono ?_
      rintro e _ ⟨rfl, rfl⟩
      go_wp2_with fail
      refine ci.out.mono ?_
      rintro e _ ⟨rfl, rfl⟩
      go_wp2_with fail
      go_ret
      exact ⟨rfl, h.out, Upd.refl _ _⟩
    | true =>
      rw [hi] at ci
      obtain ⟨k1, k8, ek, hon⟩ := isIn_pos hi
      have k9 : t.toNat < 9 := by omega
      have eE : dropE n L T t x = if L x = 0 ∨ (T t.toNat).c = 0 then 7 else 0 := by
        unfold dropE
        rw [if_neg (by omega), if_neg (by rw [hi]; decide)]
      have eL : dropL1 n L T t x = if dropE n L T t x = 0 then up L x (L x - 1) else L := rfl
      have eT : dropT n L T t x = if dropE n L T t x = 0 ∧ L x = 1 then lessT T t.toNat else T := rfl
      obtain ⟨k, rfl⟩ : ∃ k : Nat, t = (k : Int) := ⟨t.toNat, by omega⟩
      rw [Int.toNat_natCast] at *
      have d3 : 0 ≤ (k : Int) ∧ (k : Int) < 9 := by omega
      have p3 := h.chg k9
      by_cases hL : L x = 0
      · rw [if_pos (.inl hL)] at eE
        rw [eE, if_neg (by decide)] at eL
        rw [eE, if_neg (fun e => by omega)] at eT
        rw [eE, eL, eT]
        rw [hL, show ((0 : Nat) : Int) = 0 from rfl] at cx
        clear hlim
        replace h := Lib.hid h
        replace hg := Lib.hid hg
        replace eE := Lib.hid eE
        replace eL := Lib.hid eL
        replace eT := Lib.hid eT
        replace ci := Lib.hid ci
        replace hi := Lib.hid hi
        replace hon := Lib.hid hon
        go_enter Tryd.func59, Tryd.ntmps59
        go_wp2_with fail
        refine ct.out.mono ?_
        rintro e _ ⟨rfl, rfl⟩
        go_wp2_with fail
        refine ci.out.mono ?_
        rintro e _ ⟨rfl, rfl⟩
        go_wp2_with fail
        go_ret
        exact ⟨rfl, h.out, Upd.refl _ _⟩
      · have d1 : ((L x : Int) == 0) = false := beq_eq_false_iff_ne.2 (by omega)
        by_cases hc : (T k).c = 0
        · rw [if_pos (.inr hc)] at eE
          rw [eE, if_neg (by decide)] at eL
          rw [eE, if_neg (fun e => by omega)] at eT
          rw [eE, eL, eT]
          rw [hc, show ((0 : Nat) : Int) = 0 from rfl] at p3
          clear hlim
          replace h := Lib.hid h
          replace hg := Lib.hid hg
          replace eE := Lib.hid eE
          replace eL := Lib.hid eL
          replace eT := Lib.hid eT
          replace ci := Lib.hid ci
          replace hi := Lib.hid hi
          replace hon := Lib.hid hon
          go_enter Tryd.func59, Tryd.ntmps59
          go_wp2_with fail
          refine ct.out.mono ?_
          rintro e _ ⟨rfl, rfl⟩
          go_wp2_with fail
          refine ci.out.mono ?_
          rintro e _ ⟨rfl, rfl⟩
          go_wp2_with fail
          go_ret
          exact ⟨rfl, h.out, Upd.refl _ _⟩
        · have d2 : (((T k).c : Int) == 0) = false := beq_eq_false_iff_ne.2 (by omega)
          rw [if_neg (fun e => e.elim hL hc)] at eE
          rw [eE, if_pos rfl] at eL
          rw [eL, eT, eE] at hg
          rw [eE, eL, eT, eE]
          have d4 : IntKind.i64.wrap ((L x : Int) - 1) = ((L x - 1 : Nat) : Int) := by rw [IntWalk.i64_in _ (by omega)]; omega
          have z0 := h.frozenL x
          have V : Upd (fun j => j = cl) w (w.setCell ⟨cl, x, none⟩ (.int .i64 ((L x - 1 : Nat) : Int))) := (Upd.refl _ w).setCell ⟨cl, x, none⟩ _ (fun _ => rfl)
          have f1 : QF (w.setCell ⟨cl, x, none⟩ (.int .i64 ((L x - 1 : Nat) : Int))).drew c (.slice (some ⟨cl, 0, none⟩) n n) T := V.at h.f h.ne
          have i1 : (w.setCell ⟨cl, x, none⟩ (.int .i64 ((L x - 1 : Nat) : Int))).drew.heap[cl]? = some (.cells (intsC (fun j => (up L x (L x - 1) j : Int)) n) 3 (0, 0)) := ints_up h.ints x (L x - 1)
          have U1 := (two_l (c := c) V).drew
          have q0 : (w.setCell ⟨cl, x, none⟩ (.int .i64 ((L x - 1 : Nat) : Int))).drew.cell? ⟨c, 0, none⟩ = some (.slice (some ⟨cl, 0, none⟩) n n) := (cell_of_row _ _ 0 _ _ _ f1).trans rfl
          have lo := h.lo
          have hne := h.ne
          clear V
          by_cases h1 : L x = 1
          · rw [if_pos ⟨rfl, h1⟩] at hg ⊢
            have d5 : IntKind.i64.wrap (((T k).c : Int) - 1) = (((T k).c - 1 : Nat) : Int) := by rw [IntWalk.i64_in _ (by omega)]; omega
            clear hlim
            replace hg := Lib.hid hg
            replace h1 := Lib.hid h1
            replace h := Lib.hid h
            replace eE := Lib.hid eE
            replace eL := Lib.hid eL
            replace eT := Lib.hid eT
            replace ci := Lib.hid ci
            replace hi := Lib.hid hi
            replace hon := Lib.hid hon
            replace f1 := Lib.hid f1
            replace i1 := Lib.hid i1
            replace U1 := Lib.hid U1
            go_enter Tryd.func59, Tryd.ntmps59
            go_wp2_with fail
            refine ct.out.mono ?_
            rintro e _ ⟨rfl, rfl⟩
            go_wp2_with fail
            refine ci.out.mono ?_
            rintro e _ ⟨rfl, rfl⟩
            go_wp2_with fail
            refine wp_region_held_drew (S := (fun w' => w'.cell? ⟨c, 0, none⟩ = some (.slice (some ⟨cl, 0, none⟩) n n))) (by kernel_rfl) (c0) (fun hHeld => ?_)
            refine held_take (i := 0) (v := ?_) rfl (by kernel_rfl) (by kernel_rfl) (by kernel_rfl) (fun _ _ _ h => h) (Or.inl ⟨by rfl, ?_⟩) (by assumption) ?_
            rotate_left
            · intro w hSw; (try dsimp only at hSw); go_simp; try with_reducible rfl
            try simp only [Act.put, List.setIfInBounds_toArray, List.set_cons_zero, List.set_cons_succ]
            refine held_take (i := 1) (v := ?_) rfl (by kernel_rfl) (by kernel_rfl) (by kernel_rfl) (fun _ _ _ h => h) (Or.inl ⟨by rfl, ?_⟩) (by assumption) ?_
            rotate_left
            · intro w hSw; (try dsimp only at hSw); go_simp; try with_reducible rfl
            try simp only [Act.put, List.setIfInBounds_toArray, List.set_cons_zero, List.set_cons_succ]
            refine held_take (i := 2) (v := ?_) rfl (by kernel_rfl) (by kernel_rfl) (by kernel_rfl) (fun _ _ _ h => h) (Or.inl ⟨by rfl, ?_⟩) (by assumption) ?_
            rotate_left
            · intro w hSw; (try dsimp only at hSw); go_simp; try with_reducible rfl
            try simp only [Act.put, List.setIfInBounds_toArray, List.set_cons_zero, List.set_cons_succ]
            refine held_take (i := 3) (v := ?_) rfl (by kernel_rfl) (by kernel_rfl) (by kernel_rfl) (fun _ _ _ h => h) (Or.inl ⟨by rfl, ?_⟩) (by assumption) ?_
            rotate_left
            · intro w hSw; (try dsimp only at hSw); go_simp; try with_reducible rfl
            try simp only [Act.put, List.setIfInBounds_toArray, List.set_cons_zero, List.set_cons_succ]
            refine held_take (i := 4) (v := ?_) rfl (by kernel_rfl) (by kernel_rfl) (by kernel_rfl) (fun _ _ _ h => h) (Or.inl ⟨by rfl, ?_⟩) (by assumption) ?_
            rotate_left
            · intro w hSw; (try dsimp only at hSw); go_simp; try with_reducible rfl
            try simp only [Act.put, List.setIfInBounds_toArray, List.set_cons_zero, List.set_cons_succ]
            refine held_take (i := 5) (v := ?_) rfl (by kernel_rfl) (by kernel_rfl) (by kernel_rfl) (fun _ _ _ h => h) (Or.inl ⟨by rfl, ?_⟩) (by assumption) ?_
            rotate_left
            · intro w hSw; (try dsimp only at hSw); go_simp; try with_reducible rfl
            try simp only [Act.put, List.setIfInBounds_toArray, List.set_cons_zero, List.set_cons_succ]
            refine held_take (i := 6) (v := ?_) rfl (by kernel_rfl) (by kernel_rfl) (by kernel_rfl) (fun _ _ _ h => h) (Or.inl ⟨by rfl, ?_⟩) (by assumption) ?_
            rotate_left
            · intro w hSw; (try dsimp only at hSw); go_simp; try with_reducible rfl
            try simp only [Act.put, List.setIfInBounds_toArray, List.set_cons_zero, List.set_cons_succ]
            refine held_take (i := 7) (v := ?_) rfl (by kernel_rfl) (by kernel_rfl) (by kernel_rfl) (fun _ _ _ h => h) (Or.inl ⟨by rfl, ?_⟩) (by assumption) ?_
            rotate_left
            · intro w hSw; (try dsimp only at hSw); go_simp; try with_reducible rfl
            try simp only [Act.put, List.setIfInBounds_toArray, List.set_cons_zero, List.set_cons_succ]
            refine held_take (i := 8) (v := ?_) rfl (by kernel_rfl) (by kernel_rfl) (by kernel_rfl) (fun _ _ _ h => h) (Or.inl ⟨by rfl, ?_⟩) (by assumption) ?_
            rotate_left
            · intro w hSw; (try dsimp only at hSw); go_simp; try with_reducible rfl
            try simp only [Act.put, List.setIfInBounds_toArray, List.set_cons_zero, List.set_cons_succ]
            refine held_take (i := 9) (v := ?_) rfl (by kernel_rfl) (by kernel_rfl) (by kernel_rfl) (fun _ _ _ h => h) (Or.inl ⟨by rfl, ?_⟩) (by assumption) ?_
            rotate_left
            · intro w hSw; (try dsimp only at hSw); go_simp; try with_reducible rfl
            try simp only [Act.put, List.setIfInBounds_toArray, List.set_cons_zero, List.set_cons_succ]
            refine held_take (i := 10) (v := ?_) rfl (by kernel_rfl) (by kernel_rfl) (by kernel_rfl) (fun _ _ _ h => h) (Or.inl ⟨by rfl, ?_⟩) (by assumption) ?_
            rotate_left
            · intro w hSw; (try dsimp only at hSw); go_simp; try with_reducible rfl
            try simp only [Act.put, List.setIfInBounds_toArray, List.set_cons_zero, List.set_cons_succ]
            refine held_ready (i := 11) rfl (by kernel_rfl) (fun K hK => ?_)
            go_simp
            refine hK.out _ _ (c0) (fun hHeldN => ?_)
            clear hHeld hK K
            have hHeld := hHeldN
            clear hHeldN
            try simp only [Act.put, List.setIfInBounds_toArray, List.set_cons_zero, List.set_cons_succ]
            refine held_take (i := 12) (v := ?_) rfl (by kernel_rfl) (by kernel_rfl) (by kernel_rfl) (fun _ _ _ h => h) (Or.inl ⟨by rfl, ?_⟩) (by assumption) ?_
            rotate_left
            · intro w hSw; (try dsimp only at hSw); go_simp; try with_reducible rfl
            try simp only [Act.put, List.setIfInBounds_toArray, List.set_cons_zero, List.set_cons_succ]
            refine held_take (i := 13) (v := ?_) rfl (by kernel_rfl) (by kernel_rfl) (by kernel_rfl) (fun _ _ _ h => h) (Or.inl ⟨by rfl, ?_⟩) (by assumption) ?_
            rotate_left
            · intro w hSw; (try dsimp only at hSw); go_simp; try with_reducible rfl
            try simp only [Act.put, List.setIfInBounds_toArray, List.set_cons_zero, List.set_cons_succ]
            refine held_ready (i := 14) rfl (by kernel_rfl) (fun K hK => ?_)
            go_simp
            refine hK.out _ _ (q0) (fun hHeldN => ?_)
            clear hHeld hK K
            have hHeld := hHeldN
            clear hHeldN
            try simp only [Act.put]
            refine wpAnyH_done (by kernel_rfl) ?_ _
            clear hHeld
            refine name_w (fun wn hwn => ?_)
            replace f1 : QF wn c (.slice (some ⟨cl, 0, none⟩) n n) T := by rw [hwn.out]; exact f1.out
            replace i1 : wn.heap[cl]? = some (.cells (intsC (fun j => (up L x (L x - 1) j : Int)) n) 3 (0, 0)) := by rw [hwn.out]; exact i1.out
            replace U1 : Upd (TwoQ c cl) w wn := by rw [hwn.out]; exact U1.out
            clear hwn q0 cx
            have q0 : wn.cell? ⟨c, 0, none⟩ = some (.slice (some ⟨cl, 0, none⟩) n n) := (cell_of_row _ _ 0 _ _ _ f1).trans rfl
            have q1 : wn.cell? ⟨cl, x, none⟩ = some (.int .i64 ((L x - 1 : Nat) : Int)) := by rw [cell_of_row _ _ _ _ _ _ i1, intsC_get _ hn, up_same]
            rw [h1.out, show ((1 - 1 : Nat) : Int) = 0 from rfl] at q1
            have p4 : wn.cell? ⟨c, 1 + k * 4 + 3, none⟩ = some (.int .i64 ((T k).c : Int)) := by
              rw [cell_of_row _ _ _ _ _ _ f1]
              simp only [qCells, List.getElem?_toArray]
              rw [show 1 + k * 4 + 3 = (4 * k + 3) + 1 by omega, List.getElem?_cons_succ]
              exact tensV_get T k9 (by decide)
            have z3 : wn.frozen? ⟨c, 1 + k * 4 + 3, none⟩ = false := frozen_of_row _ _ _ _ _ f1
            have hU : Upd (fun j => j = c) wn (wn.setCell ⟨c, 1 + k * 4 + 3, none⟩ (.int .i64 (((T k).c - 1 : Nat) : Int))) := (Upd.refl _ wn).setCell ⟨c, 1 + k * 4 + 3, none⟩ _ (fun _ => rfl)
            have F : RefE (wn.setCell ⟨c, 1 + k * 4 + 3, none⟩ (.int .i64 (((T k).c - 1 : Nat) : Int))).drew c cl n (up L x (L x - 1)) (lessT T k) := RefE.drew ⟨QF.bump f1 k9 ((T k).c - 1), hU.at i1 hne.symm, hne, hg.out, hsm, lo⟩
            have G := (U1.trans (two_c (cl := cl) hU) (fun _ _ e => e)).drew
            clear p3
            replace f1 := Lib.hid f1
            replace i1 := Lib.hid i1
            replace U1 := Lib.hid U1
            replace hU := Lib.hid hU
            replace F := Lib.hid F
            replace G := Lib.hid G
            go_wp2_with fail
            refine wp_region_held_drew (S := (fun _ => True)) (by kernel_rfl) (trivial) (fun hHeld => ?_)
            refine held_take (i := 0) (v := ?_) rfl (by kernel_rfl) (by kernel_rfl) (by kernel_rfl) (fun _ _ _ h => h) (Or.inl ⟨by rfl, ?_⟩) (by assumption) ?_
            rotate_left
            · intro w hSw; (try dsimp only at hSw); go_simp; try with_reducible rfl
            try simp only [Act.put, List.setIfInBounds_toArray, List.set_cons_zero, List.set_cons_succ]
            refine held_take (i := 1) (v := ?_) rfl (by kernel_rfl) (by kernel_rfl) (by kernel_rfl) (fun _ _ _ h => h) (Or.inl ⟨by rfl, ?_⟩) (by assumption) ?_
            rotate_left
            · intro w hSw; (try dsimp only at hSw); go_simp; try with_reducible rfl
            try simp only [Act.put, List.setIfInBounds_toArray, List.set_cons_zero, List.set_cons_succ]
            refine held_take (i := 2) (v := ?_) rfl (by kernel_rfl) (by kernel_rfl) (by kernel_rfl) (fun _ _ _ h => h) (Or.inl ⟨by rfl, ?_⟩) (by assumption) ?_
            rotate_left
            · intro w hSw; (try dsimp only at hSw); go_simp; try with_reducible rfl
            try simp only [Act.put, List.setIfInBounds_toArray, List.set_cons_zero, List.set_cons_succ]
            refine held_take (i := 3) (v := ?_) rfl (by kernel_rfl) (by kernel_rfl) (by kernel_rfl) (fun _ _ _ h => h) (Or.inl ⟨by rfl, ?_⟩) (by assumption) ?_
            rotate_left
            · intro w hSw; (try dsimp only at hSw); go_simp; try with_reducible rfl
            try simp only [Act.put, List.setIfInBounds_toArray, List.set_cons_zero, List.set_cons_succ]
            refine held_take (i := 4) (v := ?_) rfl (by kernel_rfl) (by kernel_rfl) (by kernel_rfl) (fun _ _ _ h => h) (Or.inl ⟨by rfl, ?_⟩) (by assumption) ?_
            rotate_left
            · intro w hSw; (try dsimp only at hSw); go_simp; try with_reducible rfl
            try simp only [Act.put, List.setIfInBounds_toArray, List.set_cons_zero, List.set_cons_succ]
            refine held_take (i := 5) (v := ?_) rfl (by kernel_rfl) (by kernel_rfl) (by kernel_rfl) (fun _ _ _ h => h) (Or.inl ⟨by rfl, ?_⟩) (by assumption) ?_
            rotate_left
            · intro w hSw; (try dsimp only at hSw); go_simp; try with_reducible rfl
            try simp only [Act.put, List.setIfInBounds_toArray, List.set_cons_zero, List.set_cons_succ]
            refine held_take (i := 6) (v := ?_) rfl (by kernel_rfl) (by kernel_rfl) (by kernel_rfl) (fun _ _ _ h => h) (Or.inl ⟨by rfl, ?_⟩) (by assumption) ?_
            rotate_left
            · intro w hSw; (try dsimp only at hSw); go_simp; try with_reducible rfl
            try simp only [Act.put, List.setIfInBounds_toArray, List.set_cons_zero, List.set_cons_succ]
            refine held_take (i := 7) (v := ?_) rfl (by kernel_rfl) (by kernel_rfl) (by kernel_rfl) (fun _ _ _ h => h) (Or.inl ⟨by rfl, ?_⟩) (by assumption) ?_
            rotate_left
            · intro w hSw; (try dsimp only at hSw); go_simp; try with_reducible rfl
            try simp only [Act.put, List.setIfInBounds_toArray, List.set_cons_zero, List.set_cons_succ]
            refine held_take (i := 10) (v := ?_) rfl (by kernel_rfl) (by kernel_rfl) (by kernel_rfl) (fun _ _ _ h => h) (Or.inl ⟨by rfl, ?_⟩) (by assumption) ?_
            rotate_left
            · intro w hSw; (try dsimp only at hSw); go_simp; try with_reducible rfl
            try simp only [Act.put, List.setIfInBounds_toArray, List.set_cons_zero, List.set_cons_succ]
            refine held_take (i := 11) (v := ?_) rfl (by kernel_rfl) (by kernel_rfl) (by kernel_rfl) (fun _ _ _ h => h) (Or.inl ⟨by rfl, ?_⟩) (by assumption) ?_
            rotate_left
            · intro w hSw; (try dsimp only at hSw); go_simp; try with_reducible rfl
            try simp only [Act.put, List.setIfInBounds_toArray, List.set_cons_zero, List.set_cons_succ]
            refine held_ready (i := 8) rfl (by kernel_rfl) (fun K hK => ?_)
            go_simp
            refine hK.out _ _ (trivial) (fun hHeldN => ?_)
            clear hHeld hK K
            have hHeld := hHeldN
            clear hHeldN
            try simp only [Act.put, List.setIfInBounds_toArray, List.set_cons_zero, List.set_cons_succ]
            refine held_take (i := 9) (v := ?_) rfl (by kernel_rfl) (by kernel_rfl) (by kernel_rfl) (fun _ _ _ h => h) (Or.inl ⟨by rfl, ?_⟩) (by assumption) ?_
            rotate_left
            · intro w hSw; (try dsimp only at hSw); go_simp; try with_reducible rfl
            try simp only [Act.put, List.setIfInBounds_toArray, List.set_cons_zero, List.set_cons_succ]
            refine held_take (i := 12) (v := ?_) rfl (by kernel_rfl) (by kernel_rfl) (by kernel_rfl) (fun _ _ _ h => h) (Or.inl ⟨by rfl, ?_⟩) (by assumption) ?_
            rotate_left
            · intro w hSw; (try dsimp only at hSw); go_simp; try with_reducible rfl
            try simp only [Act.put, List.setIfInBounds_toArray, List.set_cons_zero, List.set_cons_succ]
            refine held_take (i := 13) (v := ?_) rfl (by kernel_rfl) (by kernel_rfl) (by kernel_rfl) (fun _ _ _ h => h) (Or.inl ⟨by rfl, ?_⟩) (by assumption) ?_
            rotate_left
            · intro w hSw; (try dsimp only at hSw); go_simp; try with_reducible rfl
            try simp only [Act.put, List.setIfInBounds_toArray, List.set_cons_zero, List.set_cons_succ]
            refine held_ready (i := 14) rfl (by kernel_rfl) (fun K hK => ?_)
            go_simp
            refine hK.out _ _ (trivial) (fun hHeldN => ?_)
            clear hHeld hK K
            have hHeld := hHeldN
            clear hHeldN
            try simp only [Act.put]
            refine wpAnyH_done (by kernel_rfl) ?_ _
            clear hHeld
            go_wp2_with fail
            go_ret
            exact ⟨rfl, F.out, G.out⟩
          · rw [if_neg (fun e => h1 e.2)] at hg ⊢
            have d5 : (((L x - 1 : Nat) : Int) == 0) = false := beq_eq_false_iff_ne.2 (by omega)
            clear hlim
            replace hg := Lib.hid hg
            replace h := Lib.hid h
            replace eE := Lib.hid eE
            replace eL := Lib.hid eL
            replace eT := Lib.hid eT
            replace ci := Lib.hid ci
            replace hi := Lib.hid hi
            replace hon := Lib.hid hon
            replace f1 := Lib.hid f1
            replace i1 := Lib.hid i1
            replace U1 := Lib.hid U1
            go_enter Tryd.func59, Tryd.ntmps59
            go_wp2_with fail
            refine ct.out.mono ?_
            rintro e _ ⟨rfl, rfl⟩
            go_wp2_with fail
            refine ci.out.mono ?_
            rintro e _ ⟨rfl, rfl⟩
            go_wp2_with fail
            refine wp_region_held_drew (S := (fun w' => w'.cell? ⟨c, 0, none⟩ = some (.slice (some ⟨cl, 0, none⟩) n n))) (by kernel_rfl) (c0) (fun hHeld => ?_)
            refine held_take (i := 0) (v := ?_) rfl (by kernel_rfl) (by kernel_rfl) (by kernel_rfl) (fun _ _ _ h => h) (Or.inl ⟨by rfl, ?_⟩) (by assumption) ?_
            rotate_left
            · intro w hSw; (try dsimp only at hSw); go_simp; try with_reducible rfl
            try simp only [Act.put, List.setIfInBounds_toArray, List.set_cons_zero, List.set_cons_succ]
            refine held_take (i := 1) (v := ?_) rfl (by kernel_rfl) (by kernel_rfl) (by kernel_rfl) (fun _ _ _ h => h) (Or.inl ⟨by rfl, ?_⟩) (by assumption) ?_
            rotate_left
            · intro w hSw; (try dsimp only at hSw); go_simp; try with_reducible rfl
            try simp only [Act.put, List.setIfInBounds_toArray, List.set_cons_zero, List.set_cons_succ]
            refine held_take (i := 2) (v := ?_) rfl (by kernel_rfl) (by kernel_rfl) (by kernel_rfl) (fun _ _ _ h => h) (Or.inl ⟨by rfl, ?_⟩) (by assumption) ?_
            rotate_left
            · intro w hSw; (try dsimp only at hSw); go_simp; try with_reducible rfl
            try simp only [Act.put, List.setIfInBounds_toArray, List.set_cons_zero, List.set_cons_succ]
            refine held_take (i := 3) (v := ?_) rfl (by kernel_rfl) (by kernel_rfl) (by kernel_rfl) (fun _ _ _ h => h) (Or.inl ⟨by rfl, ?_⟩) (by assumption) ?_
            rotate_left
            · intro w hSw; (try dsimp only at hSw); go_simp; try with_reducible rfl
            try simp only [Act.put, List.setIfInBounds_toArray, List.set_cons_zero, List.set_cons_succ]
            refine held_take (i := 4) (v := ?_) rfl (by kernel_rfl) (by kernel_rfl) (by kernel_rfl) (fun _ _ _ h => h) (Or.inl ⟨by rfl, ?_⟩) (by assumption) ?_
            rotate_left
            · intro w hSw; (try dsimp only at hSw); go_simp; try with_reducible rfl
            try simp only [Act.put, List.setIfInBounds_toArray, List.set_cons_zero, List.set_cons_succ]
            refine held_take (i := 5) (v := ?_) rfl (by kernel_rfl) (by kernel_rfl) (by kernel_rfl) (fun _ _ _ h => h) (Or.inl ⟨by rfl, ?_⟩) (by assumption) ?_
            rotate_left
            · intro w hSw; (try dsimp only at hSw); go_simp; try with_reducible rfl
            try simp only [Act.put, List.setIfInBounds_toArray, List.set_cons_zero, List.set_cons_succ]
            refine held_take (i := 6) (v := ?_) rfl (by kernel_rfl) (by kernel_rfl) (by kernel_rfl) (fun _ _ _ h => h) (Or.inl ⟨by rfl, ?_⟩) (by assumption) ?_
            rotate_left
            · intro w hSw; (try dsimp only at hSw); go_simp; try with_reducible rfl
            try simp only [Act.put, List.setIfInBounds_toArray, List.set_cons_zero, List.set_cons_succ]
            refine held_take (i := 7) (v := ?_) rfl (by kernel_rfl) (by kernel_rfl) (by kernel_rfl) (fun _ _ _ h => h) (Or.inl ⟨by rfl, ?_⟩) (by assumption) ?_
            rotate_left
            · intro w hSw; (try dsimp only at hSw); go_simp; try with_reducible rfl
            try simp only [Act.put, List.setIfInBounds_toArray, List.set_cons_zero, List.set_cons_succ]
            refine held_take (i := 8) (v := ?_) rfl (by kernel_rfl) (by kernel_rfl) (by kernel_rfl) (fun _ _ _ h => h) (Or.inl ⟨by rfl, ?_⟩) (by assumption) ?_
            rotate_left
            · intro w hSw; (try dsimp only at hSw); go_simp; try with_reducible rfl
            try simp only [Act.put, List.setIfInBounds_toArray, List.set_cons_zero, List.set_cons_succ]
            refine held_take (i := 9) (v := ?_) rfl (by kernel_rfl) (by kernel_rfl) (by kernel_rfl) (fun _ _ _ h => h) (Or.inl ⟨by rfl, ?_⟩) (by assumption) ?_
            rotate_left
            · intro w hSw; (try dsimp only at hSw); go_simp; try with_reducible rfl
            try simp only [Act.put, List.setIfInBounds_toArray, List.set_cons_zero, List.set_cons_succ]
            refine held_take (i := 10) (v := ?_) rfl (by kernel_rfl) (by kernel_rfl) (by kernel_rfl) (fun _ _ _ h => h) (Or.inl ⟨by rfl, ?_⟩) (by assumption) ?_
            rotate_left
            · intro w hSw; (try dsimp only at hSw); go_simp; try with_reducible rfl
            try simp only [Act.put, List.setIfInBounds_toArray, List.set_cons_zero, List.set_cons_succ]
            refine held_ready (i := 11) rfl (by kernel_rfl) (fun K hK => ?_)
            go_simp
            refine hK.out _ _ (c0) (fun hHeldN => ?_)
            clear hHeld hK K
            have hHeld := hHeldN
            clear hHeldN
            try simp only [Act.put, List.setIfInBounds_toArray, List.set_cons_zero, List.set_cons_succ]
            refine held_take (i := 12) (v := ?_) rfl (by kernel_rfl) (by kernel_rfl) (by kernel_rfl) (fun _ _ _ h => h) (Or.inl ⟨by rfl, ?_⟩) (by assumption) ?_
            rotate_left
            · intro w hSw; (try dsimp only at hSw); go_simp; try with_reducible rfl
            try simp only [Act.put, List.setIfInBounds_toArray, List.set_cons_zero, List.set_cons_succ]
            refine held_take (i := 13) (v := ?_) rfl (by kernel_rfl) (by kernel_rfl) (by kernel_rfl) (fun _ _ _ h => h) (Or.inl ⟨by rfl, ?_⟩) (by assumption) ?_
            rotate_left
            · intro w hSw; (try dsimp only at hSw); go_simp; try with_reducible rfl
            try simp only [Act.put, List.setIfInBounds_toArray, List.set_cons_zero, List.set_cons_succ]
            refine held_ready (i := 14) rfl (by kernel_rfl) (fun K hK => ?_)
            go_simp
            refine hK.out _ _ (q0) (fun hHeldN => ?_)
            clear hHeld hK K
            have hHeld := hHeldN
            clear hHeldN
            try simp only [Act.put]
            refine wpAnyH_done (by kernel_rfl) ?_ _
            clear hHeld
            refine name_w (fun wn hwn => ?_)
            replace f1 : QF wn c (.slice (some ⟨cl, 0, none⟩) n n) T := by rw [hwn.out]; exact f1.out
            replace i1 : wn.heap[cl]? = some (.cells (intsC (fun j => (up L x (L x - 1) j : Int)) n) 3 (0, 0)) := by rw [hwn.out]; exact i1.out
            replace U1 : Upd (TwoQ c cl) w wn := by rw [hwn.out]; exact U1.out
            clear hwn q0 cx
            have q0 : wn.cell? ⟨c, 0, none⟩ = some (.slice (some ⟨cl, 0, none⟩) n n) := (cell_of_row _ _ 0 _ _ _ f1).trans rfl
            have q1 : wn.cell? ⟨cl, x, none⟩ = some (.int .i64 ((L x - 1 : Nat) : Int)) := by rw [cell_of_row _ _ _ _ _ _ i1, intsC_get _ hn, up_same]
            have F : RefE wn c cl n (up L x (L x - 1)) T := ⟨f1, i1, hne, hg.out, hsm, lo⟩
            clear p3
            generalize hv : L x - 1 = v at *
            replace f1 := Lib.hid f1
            replace i1 := Lib.hid i1
            replace F := Lib.hid F
            replace U1 := Lib.hid U1
            replace hv := Lib.hid hv
            go_wp2_with fail
            go_ret
            exact ⟨rfl, F.out, U1.out⟩
  · have eE : dropE n L T t x = 1 := by unfold dropE; rw [if_pos (by omega)]
    have eL : dropL1 n L T t x = L := by unfold dropL1; rw [if_neg (by rw [eE]; decide)]
    have eT : dropT n L T t x = T := by unfold dropT; rw [if_neg (fun e => by rw [eE] at e; omega)]
    rw [eE, eL, eT]
    rw [decide_eq_false hn] at ct
    replace h := Lib.hid h
    replace hg := Lib.hid hg
    replace eE := Lib.hid eE
    replace eL := Lib.hid eL
    replace eT := Lib.hid eT
    replace ci := Lib.hid ci
    go_enter Tryd.func59, Tryd.ntmps59
    go_wp2_with fail
    refine ct.out.mono ?_
    rintro e _ ⟨rfl, rfl⟩
    go_wp2_with fail
    go_ret
    exact ⟨rfl, h.out, Upd.refl _ _⟩
end
end Go.Proofs.YtjhfoddhpmmjoaaDoor
