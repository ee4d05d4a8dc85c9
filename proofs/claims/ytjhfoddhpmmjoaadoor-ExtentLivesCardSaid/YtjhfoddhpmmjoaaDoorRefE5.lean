/-
  The reference of layer 17: Claim. Condition: the blocks are its own; no extent is held too often.
-/
import Derived.Test.YtjhfoddhpmmjoaaDoorRefE4
namespace Go.Proofs.YtjhfoddhpmmjoaaDoor
set_option maxRecDepth 100000
open Go.RowKit
section
variable {w : World} {c cl n : Nat} {L : Nat → Nat} {T : Nat → Ten}
set_option maxHeartbeats 4000000 in
set_option maxRecDepth 100000 in
theorem qclaim_any (h : RefE w c cl n L T) (t : Int) (x : Nat) (hx : x < 4294967296) (hb : L x < 2147483647) :
    Calls Tryd.prog 57 #[.pointer (some ⟨c, 0, none⟩), .int .i64 t, .int .u32 (x : Int)] w (RSays c cl n (claimL n L T t x) (claimT n L T t x) (claimE n L T t x) w) := by
  have ct := Lib.hid (qthere_any h x hx)
  have ci := qin_any h t
  have c0 := h.l
  have hg := h.good.claim t x
  have hlim := h.good.lim t.toNat
  have hsm := h.small
  by_cases hn : x < n
  · rw [decide_eq_true hn] at ct
    have cx := h.at hn
    have d0 : 0 ≤ (x : Int) ∧ (x : Int) < (n : Int) := by omega
    cases hi : isIn T t with
    | false =>
      rw [hi] at ci
      have eE : claimE n L T t x = 51 := by unfold claimE; rw [if_neg (by omega), if_pos hi]
      have eL : claimL n L T t x = L := by unfold claimL; rw [if_neg (by rw [eE]; decide)]
      have eT : claimT n L T t x = T := by unfold claimT; rw [if_neg (fun e => by rw [eE] at e; omega)]
      rw [eE, eL, eT]
      replace h := Lib.hid h
      replace hg := Lib.hid hg
      replace eE := Lib.hid eE
      replace eL := Lib.hid eL
      replace eT := Lib.hid eT
      replace ci := Lib.hid ci
      replace hi := Lib.hid hi
      go_enter Tryd.func57, Tryd.ntmps57
      go_wp2_with fail
      refine ct.out.mono ?_
      rintro e _ ⟨rfl, rfl⟩
      go_wp2_with fail
      refine ci.out.mono ?_
      rintro e _ ⟨rfl, rfl⟩
      go_wp2_with fail
      go_ret
      exact ⟨rfl, h.out, Upd.refl _ _⟩
    | true =>
      rw [hi] at ci
      obtain ⟨k1, k8, ek, hon⟩ := isIn_pos hi
      have k9 : t.toNat < 9 := by omega
      have eE0 : claimE n L T t x = if 0 < L x then 0 else roomE n T (T t.toNat) := by
        unfold claimE
        rw [if_neg (by omega), if_neg (by rw [hi]; decide), holdRes_lt hn, if_neg (show ¬ L x = 2147483647 by omega)]
      have eL0 : claimL n L T t x = if claimE n L T t x = 0 then up L x (L x + 1) else L := rfl
      have eT0 : claimT n L T t x = if claimE n L T t x = 0 ∧ L x = 0 then bumpT T t.toNat else T := rfl
      by_cases hL : L x = 0
      · rw [if_neg (by omega)] at eE0
        have d1 : ((L x : Int) == 0) = true := by rw [hL]; rfl
        have cr := qroom_any h t.toNat k9
        rw [ek] at cr
        generalize hE : roomE n T (T t.toNat) = E at *
        by_cases hE0 : E = 0
        · subst hE0
          rw [eE0, if_pos rfl, hL] at eL0
          rw [eE0, if_pos ⟨rfl, hL⟩] at eT0
          rw [eL0, eT0] at hg
          rw [eE0, eL0, eT0]
          have tl : 0 ≤ t ∧ t < 9 := by omega
          obtain ⟨k, rfl⟩ : ∃ k : Nat, t = (k : Int) := ⟨t.toNat, by omega⟩
          rw [Int.toNat_natCast] at *
          have d3 : 0 ≤ (k : Int) ∧ (k : Int) < 9 := by omega
          have d4 : IntKind.i64.wrap (((T k).c : Int) + 1) = ((T k).c : Int) + 1 := IntWalk.i64_in _ (by omega)
          replace h := Lib.hid h
          replace hg := Lib.hid hg
          replace eE0 := Lib.hid eE0
          replace eL0 := Lib.hid eL0
          replace eT0 := Lib.hid eT0
          replace ci := Lib.hid ci
          replace hi := Lib.hid hi
          replace cr := Lib.hid cr
          replace hon := Lib.hid hon
          replace hE := Lib.hid hE
          rw [hL, show ((0 : Nat) : Int) = 0 from rfl] at cx
          clear hlim tl
          go_enter Tryd.func57, Tryd.ntmps57
          go_wp2_with fail
          refine ct.out.mono ?_
          rintro e _ ⟨rfl, rfl⟩
          go_wp2_with fail
          refine ci.out.mono ?_
          rintro e _ ⟨rfl, rfl⟩
          go_wp2_with fail
          refine cr.out.mono ?_
          rintro e w1 ⟨rfl, B1⟩
          have h1 := h.out.below B1
          have p3 := h1.chg k9
          have z3 := h1.frozen (1 + k * 4 + 3)
          have c1 := h1.l
          have hf := QF.bump (b := c) h1.f k9 ((T k).c + 1)
          have ex : (((T k).c + 1 : Nat) : Int) = ((T k).c : Int) + 1 := by omega
          rw [ex] at hf
          have hU : Upd (fun j => j = c) w1 (w1.setCell ⟨c, 1 + k * 4 + 3, none⟩ (.int .i64 (((T k).c : Int) + 1))) := (Upd.refl _ w1).setCell ⟨c, 1 + k * 4 + 3, none⟩ _ (fun _ => rfl)
          have hi2 := hU.at h1.ints h1.ne.symm
          have UU := (two_below (c := c) (cl := cl) B1).trans (two_c (cl := cl) hU) (fun _ _ e => e)
          have hne := h1.ne
          clear cr h1
          replace B1 := Lib.hid B1
          replace hf := Lib.hid hf
          replace hU := Lib.hid hU
          replace hi2 := Lib.hid hi2
          replace UU := Lib.hid UU
          replace ex := Lib.hid ex
          go_wp2_with fail
          refine wp_region_held_drew (S := (fun _ => True)) (by kernel_rfl) (trivial) (fun hHeld => ?_)
          refine held_take (i := 0) (v := ?_) rfl (by kernel_rfl) (by kernel_rfl) (by kernel_rfl) (fun _ _ _ h => h) (Or.inl ⟨by rfl, ?_⟩) (by assumption) ?_
          rotate_left
          · intro w hSw; (try dsimp only at hSw); go_simp; try with_reducible rfl
          try simp only [Act.put, List.setIfInBounds_toArray, List.set_cons_zero, List.set_cons_succ]
          refine held_take (i := 1) (v := ?_) rfl (by kernel_rfl) (by kernel_rfl) (by kernel_rfl) (fun _ _ _ h => h) (Or.inl ⟨by rfl, ?_⟩) (by assumption) ?_
          rotate_left
          · intro w hSw; (try dsimp only at hSw); go_simp; try with_reducible rfl
          try simp only [Act.put, List.setIfInBounds_toArray, List.set_cons_zero, List.set_cons_succ]
          refine held_take (i := 2) (v := ?_) rfl (by kernel_rfl) (by kernel_rfl) (by kernel_rfl) (fun _ _ _ h => h) (Or.inl ⟨by rfl, ?_⟩) (by assumption) ?_
          rotate_left
          · intro w hSw; (try dsimp only at hSw); go_simp; try with_reducible rfl
          try simp only [Act.put, List.setIfInBounds_toArray, List.set_cons_zero, List.set_cons_succ]
          refine held_take (i := 3) (v := ?_) rfl (by kernel_rfl) (by kernel_rfl) (by kernel_rfl) (fun _ _ _ h => h) (Or.inl ⟨by rfl, ?_⟩) (by assumption) ?_
          rotate_left
          · intro w hSw; (try dsimp only at hSw); go_simp; try with_reducible rfl
          try simp only [Act.put, List.setIfInBounds_toArray, List.set_cons_zero, List.set_cons_succ]
          refine held_take (i := 4) (v := ?_) rfl (by kernel_rfl) (by kernel_rfl) (by kernel_rfl) (fun _ _ _ h => h) (Or.inl ⟨by rfl, ?_⟩) (by assumption) ?_
          rotate_left
          · intro w hSw; (try dsimp only at hSw); go_simp; try with_reducible rfl
          try simp only [Act.put, List.setIfInBounds_toArray, List.set_cons_zero, List.set_cons_succ]
          refine held_take (i := 5) (v := ?_) rfl (by kernel_rfl) (by kernel_rfl) (by kernel_rfl) (fun _ _ _ h => h) (Or.inl ⟨by rfl, ?_⟩) (by assumption) ?_
          rotate_left
          · intro w hSw; (try dsimp only at hSw); go_simp; try with_reducible rfl
          try simp only [Act.put, List.setIfInBounds_toArray, List.set_cons_zero, List.set_cons_succ]
          refine held_take (i := 6) (v := ?_) rfl (by kernel_rfl) (by kernel_rfl) (by kernel_rfl) (fun _ _ _ h => h) (Or.inl ⟨by rfl, ?_⟩) (by assumption) ?_
          rotate_left
          · intro w hSw; (try dsimp only at hSw); go_simp; try with_reducible rfl
          try simp only [Act.put, List.setIfInBounds_toArray, List.set_cons_zero, List.set_cons_succ]
          refine held_take (i := 7) (v := ?_) rfl (by kernel_rfl) (by kernel_rfl) (by kernel_rfl) (fun _ _ _ h => h) (Or.inl ⟨by rfl, ?_⟩) (by assumption) ?_
          rotate_left
          · intro w hSw; (try dsimp only at hSw); go_simp; try with_reducible rfl
          try simp only [Act.put, List.setIfInBounds_toArray, List.set_cons_zero, List.set_cons_succ]
          refine held_take (i := 10) (v := ?_) rfl (by kernel_rfl) (by kernel_rfl) (by kernel_rfl) (fun _ _ _ h => h) (Or.inl ⟨by rfl, ?_⟩) (by assumption) ?_
          rotate_left
          · intro w hSw; (try dsimp only at hSw); go_simp; try with_reducible rfl
          try simp only [Act.put, List.setIfInBounds_toArray, List.set_cons_zero, List.set_cons_succ]
          refine held_take (i := 11) (v := ?_) rfl (by kernel_rfl) (by kernel_rfl) (by kernel_rfl) (fun _ _ _ h => h) (Or.inl ⟨by rfl, ?_⟩) (by assumption) ?_
          rotate_left
          · intro w hSw; (try dsimp only at hSw); go_simp; try with_reducible rfl
          try simp only [Act.put, List.setIfInBounds_toArray, List.set_cons_zero, List.set_cons_succ]
          refine held_ready (i := 8) rfl (by kernel_rfl) (fun K hK => ?_)
          go_simp
          refine hK.out _ _ (trivial) (fun hHeldN => ?_)
          clear hHeld hK K
          have hHeld := hHeldN
          clear hHeldN
          try simp only [Act.put, List.setIfInBounds_toArray, List.set_cons_zero, List.set_cons_succ]
          refine held_take (i := 9) (v := ?_) rfl (by kernel_rfl) (by kernel_rfl) (by kernel_rfl) (fun _ _ _ h => h) (Or.inl ⟨by rfl, ?_⟩) (by assumption) ?_
          rotate_left
          · intro w hSw; (try dsimp only at hSw); go_simp; try with_reducible rfl
          try simp only [Act.put, List.setIfInBounds_toArray, List.set_cons_zero, List.set_cons_succ]
          refine held_take (i := 12) (v := ?_) rfl (by kernel_rfl) (by kernel_rfl) (by kernel_rfl) (fun _ _ _ h => h) (Or.inl ⟨by rfl, ?_⟩) (by assumption) ?_
          rotate_left
          · intro w hSw; (try dsimp only at hSw); go_simp; try with_reducible rfl
          try simp only [Act.put, List.setIfInBounds_toArray, List.set_cons_zero, List.set_cons_succ]
          refine held_take (i := 13) (v := ?_) rfl (by kernel_rfl) (by kernel_rfl) (by kernel_rfl) (fun _ _ _ h => h) (Or.inl ⟨by rfl, ?_⟩) (by assumption) ?_
          rotate_left
          · intro w hSw; (try dsimp only at hSw); go_simp; try with_reducible rfl
          try simp only [Act.put, List.setIfInBounds_toArray, List.set_cons_zero, List.set_cons_succ]
          refine held_ready (i := 14) rfl (by kernel_rfl) (fun K hK => ?_)
          go_simp
          refine hK.out _ _ (trivial) (fun hHeldN => ?_)
          clear hHeld hK K
          have hHeld := hHeldN
          clear hHeldN
          try simp only [Act.put]
          refine wpAnyH_done (by kernel_rfl) ?_ _
          clear hHeld
          go_wp2_with fail
          refine name_w (fun wn hwn => ?_)
          have f2 : QF wn c (.slice (some ⟨cl, 0, none⟩) n n) (bumpT T k) := by rw [hwn.out]; exact hf.out
          have i2 : wn.heap[cl]? = some (.cells (intsC (fun i => (L i : Int)) n) 3 (0, 0)) := by rw [hwn.out]; exact hi2.out
          have U2 : Upd (TwoQ c cl) w wn := by rw [hwn.out]; exact UU.out.drew
          clear hwn hf hi2 UU hU
          have q0 : wn.cell? ⟨c, 0, none⟩ = some (.slice (some ⟨cl, 0, none⟩) n n) := (cell_of_row _ _ 0 _ _ _ f2).trans rfl
          have q1 : wn.cell? ⟨cl, x, none⟩ = some (.int .i64 0) := by rw [cell_of_row _ _ _ _ _ _ i2, intsC_get _ hn, hL]; rfl
          have q2 : wn.frozen? ⟨cl, x, none⟩ = false := frozen_of_row _ _ _ _ _ i2
          have V : Upd (fun k => k = cl) wn (wn.setCell ⟨cl, x, none⟩ (.int .i64 1)) := (Upd.refl _ wn).setCell ⟨cl, x, none⟩ _ (fun _ => rfl)
          have F : RefE (wn.setCell ⟨cl, x, none⟩ (.int .i64 1)).drew c cl n (up L x 1) (bumpT T k) := RefE.drew ⟨V.at f2 hne, ints_up i2 x 1, hne, hg.out, hsm, h.out.lo⟩
          have G := (U2.trans (two_l (c := c) V) (fun _ _ e => e)).drew
          have q3 := F.l
          replace f2 := Lib.hid f2
          replace i2 := Lib.hid i2
          replace U2 := Lib.hid U2
          replace V := Lib.hid V
          replace F := Lib.hid F
          replace G := Lib.hid G
          refine wp_region_held_drew (S := (fun w' => w'.cell? ⟨c, 0, none⟩ = some (.slice (some ⟨cl, 0, none⟩) n n))) (by kernel_rfl) (q0) (fun hHeld => ?_)
          refine held_take (i := 0) (v := ?_) rfl (by kernel_rfl) (by kernel_rfl) (by kernel_rfl) (fun _ _ _ h => h) (Or.inl ⟨by rfl, ?_⟩) (by assumption) ?_
          rotate_left
          · intro w hSw; (try dsimp only at hSw); go_simp; try with_reducible rfl
          try simp only [Act.put, List.setIfInBounds_toArray, List.set_cons_zero, List.set_cons_succ]
          refine held_take (i := 1) (v := ?_) rfl (by kernel_rfl) (by kernel_rfl) (by kernel_rfl) (fun _ _ _ h => h) (Or.inl ⟨by rfl, ?_⟩) (by assumption) ?_
          rotate_left
          · intro w hSw; (try dsimp only at hSw); go_simp; try with_reducible rfl
          try simp only [Act.put, List.setIfInBounds_toArray, List.set_cons_zero, List.set_cons_succ]
          refine held_take (i := 2) (v := ?_) rfl (by kernel_rfl) (by kernel_rfl) (by kernel_rfl) (fun _ _ _ h => h) (Or.inl ⟨by rfl, ?_⟩) (by assumption) ?_
          rotate_left
          · intro w hSw; (try dsimp only at hSw); go_simp; try with_reducible rfl
          try simp only [Act.put, List.setIfInBounds_toArray, List.set_cons_zero, List.set_cons_succ]
          refine held_take (i := 3) (v := ?_) rfl (by kernel_rfl) (by kernel_rfl) (by kernel_rfl) (fun _ _ _ h => h) (Or.inl ⟨by rfl, ?_⟩) (by assumption) ?_
          rotate_left
          · intro w hSw; (try dsimp only at hSw); go_simp; try with_reducible rfl
          try simp only [Act.put, List.setIfInBounds_toArray, List.set_cons_zero, List.set_cons_succ]
          refine held_take (i := 4) (v := ?_) rfl (by kernel_rfl) (by kernel_rfl) (by kernel_rfl) (fun _ _ _ h => h) (Or.inl ⟨by rfl, ?_⟩) (by assumption) ?_
          rotate_left
          · intro w hSw; (try dsimp only at hSw); go_simp; try with_reducible rfl
          try simp only [Act.put, List.setIfInBounds_toArray, List.set_cons_zero, List.set_cons_succ]
          refine held_take (i := 5) (v := ?_) rfl (by kernel_rfl) (by kernel_rfl) (by kernel_rfl) (fun _ _ _ h => h) (Or.inl ⟨by rfl, ?_⟩) (by assumption) ?_
          rotate_left
          · intro w hSw; (try dsimp only at hSw); go_simp; try with_reducible rfl
          try simp only [Act.put, List.setIfInBounds_toArray, List.set_cons_zero, List.set_cons_succ]
          refine held_take (i := 6) (v := ?_) rfl (by kernel_rfl) (by kernel_rfl) (by kernel_rfl) (fun _ _ _ h => h) (Or.inl ⟨by rfl, ?_⟩) (by assumption) ?_
          rotate_left
          · intro w hSw; (try dsimp only at hSw); go_simp; try with_reducible rfl
          try simp only [Act.put, List.setIfInBounds_toArray, List.set_cons_zero, List.set_cons_succ]
          refine held_take (i := 7) (v := ?_) rfl (by kernel_rfl) (by kernel_rfl) (by kernel_rfl) (fun _ _ _ h => h) (Or.inl ⟨by rfl, ?_⟩) (by assumption) ?_
          rotate_left
          · intro w hSw; (try dsimp only at hSw); go_simp; try with_reducible rfl
          try simp only [Act.put, List.setIfInBounds_toArray, List.set_cons_zero, List.set_cons_succ]
          refine held_take (i := 8) (v := ?_) rfl (by kernel_rfl) (by kernel_rfl) (by kernel_rfl) (fun _ _ _ h => h) (Or.inl ⟨by rfl, ?_⟩) (by assumption) ?_
          rotate_left
          · intro w hSw; (try dsimp only at hSw); go_simp; try with_reducible rfl
          try simp only [Act.put, List.setIfInBounds_toArray, List.set_cons_zero, List.set_cons_succ]
          refine held_take (i := 9) (v := ?_) rfl (by kernel_rfl) (by kernel_rfl) (by kernel_rfl) (fun _ _ _ h => h) (Or.inl ⟨by rfl, ?_⟩) (by assumption) ?_
          rotate_left
          · intro w hSw; (try dsimp only at hSw); go_simp; try with_reducible rfl
          try simp only [Act.put, List.setIfInBounds_toArray, List.set_cons_zero, List.set_cons_succ]
          refine held_take (i := 10) (v := ?_) rfl (by kernel_rfl) (by kernel_rfl) (by kernel_rfl) (fun _ _ _ h => h) (Or.inl ⟨by rfl, ?_⟩) (by assumption) ?_
          rotate_left
          · intro w hSw; (try dsimp only at hSw); go_simp; try with_reducible rfl
          try simp only [Act.put, List.setIfInBounds_toArray, List.set_cons_zero, List.set_cons_succ]
          refine held_ready (i := 11) rfl (by kernel_rfl) (fun K hK => ?_)
          go_simp
          refine hK.out _ _ (q0) (fun hHeldN => ?_)
          clear hHeld hK K
          have hHeld := hHeldN
          clear hHeldN
          try simp only [Act.put, List.setIfInBounds_toArray, List.set_cons_zero, List.set_cons_succ]
          refine held_take (i := 12) (v := ?_) rfl (by kernel_rfl) (by kernel_rfl) (by kernel_rfl) (fun _ _ _ h => h) (Or.inl ⟨by rfl, ?_⟩) (by assumption) ?_
          rotate_left
          · intro w hSw; (try dsimp only at hSw); go_simp; try with_reducible rfl
          try simp only [Act.put, List.setIfInBounds_toArray, List.set_cons_zero, List.set_cons_succ]
          refine held_take (i := 13) (v := ?_) rfl (by kernel_rfl) (by kernel_rfl) (by kernel_rfl) (fun _ _ _ h => h) (Or.inl ⟨by rfl, ?_⟩) (by assumption) ?_
          rotate_left
          · intro w hSw; (try dsimp only at hSw); go_simp; try with_reducible rfl
          try simp only [Act.put, List.setIfInBounds_toArray, List.set_cons_zero, List.set_cons_succ]
          refine held_ready (i := 14) rfl (by kernel_rfl) (fun K hK => ?_)
          go_simp
          refine hK.out _ _ (q3) (fun hHeldN => ?_)
          clear hHeld hK K
          have hHeld := hHeldN
          clear hHeldN
          try simp only [Act.put]
          refine wpAnyH_done (by kernel_rfl) ?_ _
          clear hHeld
          go_wp2_with fail
          go_ret
          exact ⟨rfl, F.out, G.out⟩
        · rw [eE0, if_neg hE0] at eL0
          rw [eE0, if_neg (fun e => hE0 e.1)] at eT0
          rw [eE0, eL0, eT0]
          have d5 : (E != 0) = true := by simp [hE0]
          have d6 : (E == 0) = false := beq_eq_false_iff_ne.2 hE0
          rw [hL, show ((0 : Nat) : Int) = 0 from rfl] at cx
          clear hlim
          replace h := Lib.hid h
          replace hg := Lib.hid hg
          replace eE0 := Lib.hid eE0
          replace eL0 := Lib.hid eL0
          replace eT0 := Lib.hid eT0
          replace ci := Lib.hid ci
          replace hi := Lib.hid hi
          replace cr := Lib.hid cr
          replace hon := Lib.hid hon
          replace hE := Lib.hid hE
          replace hE0 := Lib.hid hE0
          go_enter Tryd.func57, Tryd.ntmps57
          go_wp2_with fail
          refine ct.out.mono ?_
          rintro e _ ⟨rfl, rfl⟩
          go_wp2_with fail
          refine ci.out.mono ?_
          rintro e _ ⟨rfl, rfl⟩
          go_wp2_with fail
          refine cr.out.mono ?_
          rintro e w1 ⟨rfl, B1⟩
          have h1 := h.out.below B1
          have U1 := two_below (c := c) (cl := cl) B1
          replace B1 := Lib.hid B1
          replace h1 := Lib.hid h1
          replace U1 := Lib.hid U1
          go_wp2_with fail
          go_ret
          exact ⟨rfl, h1.out, U1.out⟩
      · rw [if_pos (by omega)] at eE0
        rw [eE0, if_pos rfl] at eL0
        rw [eE0, if_neg (fun e => hL e.2)] at eT0
        rw [eL0, eT0] at hg
        rw [eE0, eL0, eT0]
        have d1 : ((L x : Int) == 0) = false := beq_eq_false_iff_ne.2 (by omega)
        have d2 : IntKind.i64.wrap ((L x : Int) + 1) = (L x : Int) + 1 := IntWalk.i64_in _ (by omega)
        have P := h.putL x (L x + 1) hg
        have z0 := h.frozenL x
        have ex : ((L x + 1 : Nat) : Int) = (L x : Int) + 1 := by omega
        rw [ex] at P
        have R := P.1.drew
        have U := P.2.drew
        have q0 := R.l
        clear P hlim
        replace h := Lib.hid h
        replace hg := Lib.hid hg
        replace eE0 := Lib.hid eE0
        replace eL0 := Lib.hid eL0
        replace eT0 := Lib.hid eT0
        replace R := Lib.hid R
        replace U := Lib.hid U
        replace ex := Lib.hid ex
        replace ci := Lib.hid ci
        replace hi := Lib.hid hi
        replace hon := Lib.hid hon
        clear hL
        go_enter Tryd.func57, Tryd.ntmps57
        go_wp2_with fail
        refine ct.out.mono ?_
        rintro e _ ⟨rfl, rfl⟩
        go_wp2_with fail
        refine ci.out.mono ?_
        rintro e _ ⟨rfl, rfl⟩
        go_wp2_with fail
        refine wp_region_held_drew (S := (fun w' => w'.cell? ⟨c, 0, none⟩ = some (.slice (some ⟨cl, 0, none⟩) n n))) (by kernel_rfl) (c0) (fun hHeld => ?_)
        refine held_take (i := 0) (v := ?_) rfl (by kernel_rfl) (by kernel_rfl) (by kernel_rfl) (fun _ _ _ h => h) (Or.inl ⟨by rfl, ?_⟩) (by assumption) ?_
        rotate_left
        · intro w hSw; (try dsimp only at hSw); go_simp; try with_reducible rfl
        try simp only [Act.put, List.setIfInBounds_toArray, List.set_cons_zero, List.set_cons_succ]
        refine held_take (i := 1) (v := ?_) rfl (by kernel_rfl) (by kernel_rfl) (by kernel_rfl) (fun _ _ _ h => h) (Or.inl ⟨by rfl, ?_⟩) (by assumption) ?_
        rotate_left
        · intro w hSw; (try dsimp only at hSw); go_simp; try with_reducible rfl
        try simp only [Act.put, List.setIfInBounds_toArray, List.set_cons_zero, List.set_cons_succ]
        refine held_take (i := 2) (v := ?_) rfl (by kernel_rfl) (by kernel_rfl) (by kernel_rfl) (fun _ _ _ h => h) (Or.inl ⟨by rfl, ?_⟩) (by assumption) ?_
        rotate_left
        · intro w hSw; (try dsimp only at hSw); go_simp; try with_reducible rfl
        try simp only [Act.put, List.setIfInBounds_toArray, List.set_cons_zero, List.set_cons_succ]
        refine held_take (i := 3) (v := ?_) rfl (by kernel_rfl) (by kernel_rfl) (by kernel_rfl) (fun _ _ _ h => h) (Or.inl ⟨by rfl, ?_⟩) (by assumption) ?_
        rotate_left
        · intro w hSw; (try dsimp only at hSw); go_simp; try with_reducible rfl
        try simp only [Act.put, List.setIfInBounds_toArray, List.set_cons_zero, List.set_cons_succ]
        refine held_take (i := 4) (v := ?_) rfl (by kernel_rfl) (by kernel_rfl) (by kernel_rfl) (fun _ _ _ h => h) (Or.inl ⟨by rfl, ?_⟩) (by assumption) ?_
        rotate_left
        · intro w hSw; (try dsimp only at hSw); go_simp; try with_reducible rfl
        try simp only [Act.put, List.setIfInBounds_toArray, List.set_cons_zero, List.set_cons_succ]
        refine held_take (i := 5) (v := ?_) rfl (by kernel_rfl) (by kernel_rfl) (by kernel_rfl) (fun _ _ _ h => h) (Or.inl ⟨by rfl, ?_⟩) (by assumption) ?_
        rotate_left
        · intro w hSw; (try dsimp only at hSw); go_simp; try with_reducible rfl
        try simp only [Act.put, List.setIfInBounds_toArray, List.set_cons_zero, List.set_cons_succ]
        refine held_take (i := 6) (v := ?_) rfl (by kernel_rfl) (by kernel_rfl) (by kernel_rfl) (fun _ _ _ h => h) (Or.inl ⟨by rfl, ?_⟩) (by assumption) ?_
        rotate_left
        · intro w hSw; (try dsimp only at hSw); go_simp; try with_reducible rfl
        try simp only [Act.put, List.setIfInBounds_toArray, List.set_cons_zero, List.set_cons_succ]
        refine held_take (i := 7) (v := ?_) rfl (by kernel_rfl) (by kernel_rfl) (by kernel_rfl) (fun _ _ _ h => h) (Or.inl ⟨by rfl, ?_⟩) (by assumption) ?_
        rotate_left
        · intro w hSw; (try dsimp only at hSw); go_simp; try with_reducible rfl
        try simp only [Act.put, List.setIfInBounds_toArray, List.set_cons_zero, List.set_cons_succ]
        refine held_take (i := 8) (v := ?_) rfl (by kernel_rfl) (by kernel_rfl) (by kernel_rfl) (fun _ _ _ h => h) (Or.inl ⟨by rfl, ?_⟩) (by assumption) ?_
        rotate_left
        · intro w hSw; (try dsimp only at hSw); go_simp; try with_reducible rfl
        try simp only [Act.put, List.setIfInBounds_toArray, List.set_cons_zero, List.set_cons_succ]
        refine held_take (i := 9) (v := ?_) rfl (by kernel_rfl) (by kernel_rfl) (by kernel_rfl) (fun _ _ _ h => h) (Or.inl ⟨by rfl, ?_⟩) (by assumption) ?_
        rotate_left
        · intro w hSw; (try dsimp only at hSw); go_simp; try with_reducible rfl
        try simp only [Act.put, List.setIfInBounds_toArray, List.set_cons_zero, List.set_cons_succ]
        refine held_take (i := 10) (v := ?_) rfl (by kernel_rfl) (by kernel_rfl) (by kernel_rfl) (fun _ _ _ h => h) (Or.inl ⟨by rfl, ?_⟩) (by assumption) ?_
        rotate_left
        · intro w hSw; (try dsimp only at hSw); go_simp; try with_reducible rfl
        try simp only [Act.put, List.setIfInBounds_toArray, List.set_cons_zero, List.set_cons_succ]
        refine held_ready (i := 11) rfl (by kernel_rfl) (fun K hK => ?_)
        go_simp
        refine hK.out _ _ (c0) (fun hHeldN => ?_)
        clear hHeld hK K
        have hHeld := hHeldN
        clear hHeldN
        try simp only [Act.put, List.setIfInBounds_toArray, List.set_cons_zero, List.set_cons_succ]
        refine held_take (i := 12) (v := ?_) rfl (by kernel_rfl) (by kernel_rfl) (by kernel_rfl) (fun _ _ _ h => h) (Or.inl ⟨by rfl, ?_⟩) (by assumption) ?_
        rotate_left
        · intro w hSw; (try dsimp only at hSw); go_simp; try with_reducible rfl
        try simp only [Act.put, List.setIfInBounds_toArray, List.set_cons_zero, List.set_cons_succ]
        refine held_take (i := 13) (v := ?_) rfl (by kernel_rfl) (by kernel_rfl) (by kernel_rfl) (fun _ _ _ h => h) (Or.inl ⟨by rfl, ?_⟩) (by assumption) ?_
        rotate_left
        · intro w hSw; (try dsimp only at hSw); go_simp; try with_reducible rfl
        try simp only [Act.put, List.setIfInBounds_toArray, List.set_cons_zero, List.set_cons_succ]
        refine held_ready (i := 14) rfl (by kernel_rfl) (fun K hK => ?_)
        go_simp
        refine hK.out _ _ (q0) (fun hHeldN => ?_)
        clear hHeld hK K
        have hHeld := hHeldN
        clear hHeldN
        try simp only [Act.put]
        refine wpAnyH_done (by kernel_rfl) ?_ _
        clear hHeld
        go_wp2_with fail
        go_ret
        exact ⟨rfl, R.out, U.out⟩
  · have eE : claimE n L T t x = 1 := by unfold claimE; rw [if_pos (by omega)]
    have eL : claimL n L T t x = L := by unfold claimL; rw [if_neg (by rw [eE]; decide)]
    have eT : claimT n L T t x = T := by unfold claimT; rw [if_neg (fun e => by rw [eE] at e; omega)]
    rw [eE, eL, eT]
    rw [decide_eq_false hn] at ct
    replace h := Lib.hid h
    replace hg := Lib.hid hg
    replace eE := Lib.hid eE
    replace eL := Lib.hid eL
    replace eT := Lib.hid eT
    replace ci := Lib.hid ci
    go_enter Tryd.func57, Tryd.ntmps57
    go_wp2_with fail
    refine ct.out.mono ?_
    rintro e _ ⟨rfl, rfl⟩
    go_wp2_with fail
    go_ret
    exact ⟨rfl, h.out, Upd.refl _ _⟩
end
end Go.Proofs.YtjhfoddhpmmjoaaDoor
