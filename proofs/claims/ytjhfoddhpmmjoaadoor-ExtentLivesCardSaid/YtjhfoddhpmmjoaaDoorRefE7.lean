/-
  The reference of layer 17: Take. Condition: the blocks are its own.
-/
import Derived.Test.YtjhfoddhpmmjoaaDoorRefE6
namespace Go.Proofs.YtjhfoddhpmmjoaaDoor
set_option maxRecDepth 100000
open Go.RowKit
section
variable {w : World} {c cl n : Nat} {L : Nat → Nat} {T : Nat → Ten}
set_option maxHeartbeats 4000000 in
set_option maxRecDepth 100000 in
theorem qtake_no (h : RefE w c cl n L T) (t : Int) (hE : takeE n T t ≠ 0) :
    Calls Tryd.prog 56 #[.pointer (some ⟨c, 0, none⟩), .int .i64 t] w fun e w' => e = .returned (.tuple #[.int .u32 0, .int .i64 (takeE n T t)]) ∧ Below w.heap.size w w' := by
  have ci := qin_any h t
  cases hi : isIn T t with
  | false =>
    rw [hi] at ci
    have eE : takeE n T t = 51 := by unfold takeE; rw [if_pos hi]
    rw [eE]
    replace h := Lib.hid h
    replace eE := Lib.hid eE
    replace hi := Lib.hid hi
    replace hE := Lib.hid hE
    go_enter Tryd.func56, Tryd.ntmps56
    go_wp2_with fail
    refine ci.mono ?_
    rintro e _ ⟨rfl, rfl⟩
    go_wp2_with fail
    go_ret2
    exact ⟨rfl, Below.refl _ _⟩
  | true =>
    rw [hi] at ci
    obtain ⟨k1, k8, ek, hon⟩ := isIn_pos hi
    have k9 : t.toNat < 9 := by omega
    have cr := qroom_any h t.toNat k9
    rw [ek] at cr
    have eE : takeE n T t = roomE n T (T t.toNat) := by unfold takeE; rw [if_neg (by rw [hi]; decide)]
    rw [← eE] at cr
    generalize takeE n T t = E at *
    have d6 : (E == 0) = false := beq_eq_false_iff_ne.2 hE
    have c1 := fun x (hx : RefE x c cl n L T) => hx.l
    have lo := h.lo
    have d7 : decide ((0 : Int) < (n : Int)) = true := decide_eq_true (by omega)
    replace h := Lib.hid h
    replace eE := Lib.hid eE
    replace hi := Lib.hid hi
    replace hE := Lib.hid hE
    replace ci := Lib.hid ci
    replace cr := Lib.hid cr
    replace hon := Lib.hid hon
    replace c1 := Lib.hid c1
    go_enter Tryd.func56, Tryd.ntmps56
    go_wp2_with fail
    refine ci.out.mono ?_
    rintro e _ ⟨rfl, rfl⟩
    go_wp2_with fail
    refine cr.out.mono ?_
    rintro e w1 ⟨rfl, B1⟩
    have c0 := c1.out _ (h.out.below B1)
    replace B1 := Lib.hid B1
    go_wp2_with fail
    go_loopw [7] (fun iv wr => iv = .int .i64 0 ∧ wr = w1) (fun _ _ => 0)
    case atStart => exact ⟨rfl, rfl⟩
    case round =>
      obtain ⟨rfl, rfl⟩ := hrel
      go_wp2_with fail
      go_ret2
      exact ⟨rfl, B1.out⟩
set_option maxHeartbeats 4000000 in
set_option maxRecDepth 100000 in
theorem qtake_ok (h : RefE w c cl n L T) (t : Int) (hE : takeE n T t = 0) :
    Calls Tryd.prog 56 #[.pointer (some ⟨c, 0, none⟩), .int .i64 t] w fun e w' => ∃ i, i < n ∧ L i = 0 ∧ (∀ j, j < i → 0 < L j) ∧ e = .returned (.tuple #[.int .u32 (i : Int), .int .i64 0]) ∧ RefE w' c cl n (up L i 1) (bumpT T t.toNat) ∧ Upd (TwoQ c cl) w w' := by
  have ci := qin_any h t
  have hi : isIn T t = true := by
    unfold takeE at hE
    cases hi : isIn T t with
    | false => rw [if_pos hi] at hE; omega
    | true => rfl
  rw [hi] at ci
  obtain ⟨k1, k8, ek, hon⟩ := isIn_pos hi
  have k9 : t.toNat < 9 := by omega
  have hr : roomE n T (T t.toNat) = 0 := by unfold takeE at hE; rwa [if_neg (by rw [hi]; decide)] at hE
  obtain ⟨i0, hi0, hL0⟩ := h.good.free hi hr
  have hgb := fun i (hi' : i < n) (h0 : L i = 0) => h.good.bump hi hr hi' h0
  have cr := qroom_any h t.toNat k9
  rw [ek, hr] at cr
  have hlim := h.good.lim t.toNat
  have hsm := h.small
  obtain ⟨k, rfl⟩ : ∃ k : Nat, t = (k : Int) := ⟨t.toNat, by omega⟩
  rw [Int.toNat_natCast] at *
  have d3 : 0 ≤ (k : Int) ∧ (k : Int) < 9 := by omega
  have d4 : IntKind.i64.wrap (((T k).c : Int) + 1) = (((T k).c + 1 : Nat) : Int) := by rw [IntWalk.i64_in _ (by omega)]; omega
  clear hlim
  replace h := Lib.hid h
  replace ci := Lib.hid ci
  replace cr := Lib.hid cr
  replace hon := Lib.hid hon
  replace hE := Lib.hid hE
  replace hi := Lib.hid hi
  replace hgb := Lib.hid hgb
  replace hr := Lib.hid hr
  go_enter Tryd.func56, Tryd.ntmps56
  go_wp2_with fail
  refine ci.out.mono ?_
  rintro e _ ⟨rfl, rfl⟩
  go_wp2_with fail
  refine cr.out.mono ?_
  rintro e w1 ⟨rfl, B1⟩
  have h1 := h.out.below B1
  clear cr ci
  replace B1 := Lib.hid B1
  replace h1 := Lib.hid h1
  go_wp2_with fail
  go_loopw [7] (fun iv wr => ∃ i : Nat, i < n ∧ iv = .int .i64 (i : Int) ∧ (∀ j, j < i → 0 < L j) ∧ Hid (RefE wr c cl n L T) ∧ Hid (Below w.heap.size w wr)) (fun iv _ => n - (intOf iv).toNat)
  case atStart => exact ⟨0, by omega, rfl, fun j hj => by omega, h1, B1⟩
  case round =>
    clear h1 B1
    obtain ⟨i, hin, rfl, hbe, h1, B1⟩ := hrel
    have c0 := h1.out.l
    have ca := h1.out.at hin
    have d5 : decide ((i : Int) < (n : Int)) = true := decide_eq_true (by omega)
    have d6 : 0 ≤ (i : Int) ∧ (i : Int) < (n : Int) := by omega
    by_cases hL : L i = 0
    · have z0 := h1.out.frozenL i
      have hne := h1.out.ne
      have V : Upd (fun j => j = cl) wr (wr.setCell ⟨cl, i, none⟩ (.int .i64 ((1 : Nat) : Int))) := (Upd.refl _ wr).setCell ⟨cl, i, none⟩ _ (fun _ => rfl)
      have f1 : QF (wr.setCell ⟨cl, i, none⟩ (.int .i64 ((1 : Nat) : Int))) c (.slice (some ⟨cl, 0, none⟩) n n) T := V.at h1.out.f hne
      have i1 := ints_up h1.out.ints i 1
      have U1 := (two_below (c := c) (cl := cl) (by exact B1.out)).trans (two_l (c := c) V) (fun _ _ e => e)
      rw [hL, show ((0 : Nat) : Int) = 0 from rfl] at ca
      have hg := hgb.out i hin hL
      have d7 : IntKind.u32.wrap (i : Int) = (i : Int) := IntWalk.u32_in _ (by omega)
      simp only [show ((1 : Nat) : Int) = 1 from rfl] at V f1 i1 U1
      clear V
      replace h1 := Lib.hid h1
      replace B1 := Lib.hid B1
      replace f1 := Lib.hid f1
      replace i1 := Lib.hid i1
      replace U1 := Lib.hid U1
      replace hg := Lib.hid hg
      go_wp2_with fail
      refine name_w (fun wn hwn => ?_)
      replace f1 : QF wn c (.slice (some ⟨cl, 0, none⟩) n n) T := by rw [hwn.out]; exact f1.out
      replace i1 : wn.heap[cl]? = some (.cells (intsC (fun j => (up L i 1 j : Int)) n) 3 (0, 0)) := by rw [hwn.out]; exact i1.out
      replace U1 : Upd (TwoQ c cl) w wn := by rw [hwn.out]; exact U1.out
      clear hwn c0 ca z0
      have p4 : wn.cell? ⟨c, 1 + k * 4 + 3, none⟩ = some (.int .i64 ((T k).c : Int)) := by
        rw [cell_of_row _ _ _ _ _ _ f1]
        simp only [qCells, List.getElem?_toArray]
        rw [show 1 + k * 4 + 3 = (4 * k + 3) + 1 by omega, List.getElem?_cons_succ]
        exact tensV_get T k9 (by decide)
      have z3 : wn.frozen? ⟨c, 1 + k * 4 + 3, none⟩ = false := frozen_of_row _ _ _ _ _ f1
      have hU : Upd (fun j => j = c) wn (wn.setCell ⟨c, 1 + k * 4 + 3, none⟩ (.int .i64 (((T k).c + 1 : Nat) : Int))) := (Upd.refl _ wn).setCell ⟨c, 1 + k * 4 + 3, none⟩ _ (fun _ => rfl)
      have F : RefE (wn.setCell ⟨c, 1 + k * 4 + 3, none⟩ (.int .i64 (((T k).c + 1 : Nat) : Int))).drew c cl n (up L i 1) (bumpT T k) := RefE.drew ⟨QF.bump f1 k9 ((T k).c + 1), hU.at i1 hne.symm, hne, hg.out, hsm, h.out.lo⟩
      have G := (U1.trans (two_c (cl := cl) hU) (fun _ _ e => e)).drew
      replace f1 := Lib.hid f1
      replace i1 := Lib.hid i1
      replace U1 := Lib.hid U1
      replace hU := Lib.hid hU
      replace F := Lib.hid F
      replace G := Lib.hid G
      refine wp_region_held_drew (S := (fun _ => True)) (by kernel_rfl) (trivial) (fun hHeld => ?_)
      refine held_take (i := 0) (v := ?_) rfl (by kernel_rfl) (by kernel_rfl) (by kernel_rfl) (fun _ _ _ h => h) (Or.inl ⟨by rfl, ?_⟩) (by assumption) ?_
      rotate_left
      · intro w hSw; (try dsimp only at hSw); go_simp; try with_reducible rfl
      try simp only [Act.put, List.setIfInBounds_toArray, List.set_cons_zero, List.set_cons_succ]
      refine held_take (i := 1) (v := ?_) rfl (by kernel_rfl) (by kernel_rfl) (by kernel_rfl) (fun _ _ _ h => h) (Or.inl ⟨by rfl, ?_⟩) (by assumption) ?_
      rotate_left
      · intro w hSw; (try dsimp only at hSw); go_simp; try with_reducible rfl
      try simp only [Act.put, List.setIfInBounds_toArray, List.set_cons_zero, List.set_cons_succ]
      refine held_take (i := 2) (v := ?_) rfl (by kernel_rfl) (by kernel_rfl) (by kernel_rfl) (fun _ _ _ h => h) (Or.inl ⟨by rfl, ?_⟩) (by assumption) ?_
      rotate_left
      · intro w hSw; (try dsimp only at hSw); go_simp; try with_reducible rfl
      try simp only [Act.put, List.setIfInBounds_toArray, List.set_cons_zero, List.set_cons_succ]
      refine held_take (i := 3) (v := ?_) rfl (by kernel_rfl) (by kernel_rfl) (by kernel_rfl) (fun _ _ _ h => h) (Or.inl ⟨by rfl, ?_⟩) (by assumption) ?_
      rotate_left
      · intro w hSw; (try dsimp only at hSw); go_simp; try with_reducible rfl
      try simp only [Act.put, List.setIfInBounds_toArray, List.set_cons_zero, List.set_cons_succ]
      refine held_take (i := 4) (v := ?_) rfl (by kernel_rfl) (by kernel_rfl) (by kernel_rfl) (fun _ _ _ h => h) (Or.inl ⟨by rfl, ?_⟩) (by assumption) ?_
      rotate_left
      · intro w hSw; (try dsimp only at hSw); go_simp; try with_reducible rfl
      try simp only [Act.put, List.setIfInBounds_toArray, List.set_cons_zero, List.set_cons_succ]
      refine held_take (i := 5) (v := ?_) rfl (by kernel_rfl) (by kernel_rfl) (by kernel_rfl) (fun _ _ _ h => h) (Or.inl ⟨by rfl, ?_⟩) (by assumption) ?_
      rotate_left
      · intro w hSw; (try dsimp only at hSw); go_simp; try with_reducible rfl
      try simp only [Act.put, List.setIfInBounds_toArray, List.set_cons_zero, List.set_cons_succ]
      refine held_take (i := 6) (v := ?_) rfl (by kernel_rfl) (by kernel_rfl) (by kernel_rfl) (fun _ _ _ h => h) (Or.inl ⟨by rfl, ?_⟩) (by assumption) ?_
      rotate_left
      · intro w hSw; (try dsimp only at hSw); go_simp; try with_reducible rfl
      try simp only [Act.put, List.setIfInBounds_toArray, List.set_cons_zero, List.set_cons_succ]
      refine held_take (i := 7) (v := ?_) rfl (by kernel_rfl) (by kernel_rfl) (by kernel_rfl) (fun _ _ _ h => h) (Or.inl ⟨by rfl, ?_⟩) (by assumption) ?_
      rotate_left
      · intro w hSw; (try dsimp only at hSw); go_simp; try with_reducible rfl
      try simp only [Act.put, List.setIfInBounds_toArray, List.set_cons_zero, List.set_cons_succ]
      refine held_take (i := 10) (v := ?_) rfl (by kernel_rfl) (by kernel_rfl) (by kernel_rfl) (fun _ _ _ h => h) (Or.inl ⟨by rfl, ?_⟩) (by assumption) ?_
      rotate_left
      · intro w hSw; (try dsimp only at hSw); go_simp; try with_reducible rfl
      try simp only [Act.put, List.setIfInBounds_toArray, List.set_cons_zero, List.set_cons_succ]
      refine held_take (i := 11) (v := ?_) rfl (by kernel_rfl) (by kernel_rfl) (by kernel_rfl) (fun _ _ _ h => h) (Or.inl ⟨by rfl, ?_⟩) (by assumption) ?_
      rotate_left
      · intro w hSw; (try dsimp only at hSw); go_simp; try with_reducible rfl
      try simp only [Act.put, List.setIfInBounds_toArray, List.set_cons_zero, List.set_cons_succ]
      refine held_ready (i := 8) rfl (by kernel_rfl) (fun K hK => ?_)
      go_simp
      refine hK.out _ _ (trivial) (fun hHeldN => ?_)
      clear hHeld hK K
      have hHeld := hHeldN
      clear hHeldN
      try simp only [Act.put, List.setIfInBounds_toArray, List.set_cons_zero, List.set_cons_succ]
      refine held_take (i := 9) (v := ?_) rfl (by kernel_rfl) (by kernel_rfl) (by kernel_rfl) (fun _ _ _ h => h) (Or.inl ⟨by rfl, ?_⟩) (by assumption) ?_
      rotate_left
      · intro w hSw; (try dsimp only at hSw); go_simp; try with_reducible rfl
      try simp only [Act.put, List.setIfInBounds_toArray, List.set_cons_zero, List.set_cons_succ]
      refine held_take (i := 12) (v := ?_) rfl (by kernel_rfl) (by kernel_rfl) (by kernel_rfl) (fun _ _ _ h => h) (Or.inl ⟨by rfl, ?_⟩) (by assumption) ?_
      rotate_left
      · intro w hSw; (try dsimp only at hSw); go_simp; try with_reducible rfl
      try simp only [Act.put, List.setIfInBounds_toArray, List.set_cons_zero, List.set_cons_succ]
      refine held_take (i := 13) (v := ?_) rfl (by kernel_rfl) (by kernel_rfl) (by kernel_rfl) (fun _ _ _ h => h) (Or.inl ⟨by rfl, ?_⟩) (by assumption) ?_
      rotate_left
      · intro w hSw; (try dsimp only at hSw); go_simp; try with_reducible rfl
      try simp only [Act.put, List.setIfInBounds_toArray, List.set_cons_zero, List.set_cons_succ]
      refine held_ready (i := 14) rfl (by kernel_rfl) (fun K hK => ?_)
      go_simp
      refine hK.out _ _ (trivial) (fun hHeldN => ?_)
      clear hHeld hK K
      have hHeld := hHeldN
      clear hHeldN
      try simp only [Act.put]
      refine wpAnyH_done (by kernel_rfl) ?_ _
      clear hHeld
      go_wp2_with fail
      go_ret2
      exact ⟨i, hin, hL, hbe, rfl, F.out, G.out⟩
    · have d7 : ((L i : Int) == 0) = false := beq_eq_false_iff_ne.2 (by omega)
      have hnext : i + 1 < n := by
        rcases Nat.lt_trichotomy i0 i with e | e | e
        · exact absurd hL0 (by have := hbe i0 e; omega)
        · subst e; exact absurd hL0 hL
        · omega
      go_wp2_with fail
      go_roundw
      case rel => exact ⟨i + 1, hnext, by go_num, fun j hj => by
        by_cases e : j = i
        · subst e; omega
        · exact hbe j (by omega), h1, B1⟩
      case measure => simp [intOf]; omega
end
end Go.Proofs.YtjhfoddhpmmjoaaDoor
