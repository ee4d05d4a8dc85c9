/-
  extent: Resize, Hold. Condition: the field's blocks are its own.
  extent: Take, Claim, Drop. Conditions: the field's blocks are its own; math/bits' table is laid.
-/
import Derived.Test.YtjhfoddhpmmjoaaDoorQExtWrite
namespace Go.Proofs.YtjhfoddhpmmjoaaDoor
set_option maxRecDepth 100000
open Go.RowKit

section
variable {w : World} {b rb rw rm n m : Nat} {L : Nat → Nat} {T : Nat → Ten}
theorem isIn_nat {T : Nat → Ten} {k : Nat} (k1 : 1 ≤ k) (k9 : k < 9) : isIn T (k : Int) = (T k).on := by
  unfold isIn
  rw [Int.toNat_natCast, decide_eq_true (show (1 : Int) ≤ (k : Int) ∧ (k : Int) ≤ 8 by omega), Bool.true_and]
set_option maxHeartbeats 4000000 in
set_option maxRecDepth 100000 in
theorem eresize_any (h : FieldAt w b rb rw rm n m L T) (t r q : Int) :
    Calls Tryd.prog 28 #[.pointer (some ⟨b, 0, none⟩), .int .i64 t, .int .i64 r, .int .i64 q] w (FieldSays b rb rw rm n m L (resizeT n T t r q) (resizeE n T t r q) w) := by
  have cy := Lib.hid (emay_any h t r q)
  have hga := h.good.resize t r q
  cases hb : badLim n t r q with
  | true =>
    rw [hb, if_pos rfl] at cy
    have eE : resizeE n T t r q = 1 := by unfold resizeE; rw [if_pos hb]
    have eT : resizeT n T t r q = T := by unfold resizeT; rw [if_neg (by rw [eE]; decide)]
    rw [eE, eT]
    replace h := Lib.hid h
    replace hga := Lib.hid hga
    replace eE := Lib.hid eE
    replace eT := Lib.hid eT
    replace hb := Lib.hid hb
    go_enter Tryd.func28, Tryd.ntmps28
    go_wp2_with fail
    refine cy.out.mono ?_
    rintro e _ ⟨rfl, rfl⟩
    go_wp2_with fail
    go_ret
    exact ⟨rfl, h.out, Upd.refl _ _⟩
  | false =>
    rw [hb, if_neg (by decide)] at cy
    obtain ⟨k, rn, qn, rfl, rfl, rfl, k1, k9, h3, h4⟩ := badLim_false hb
    have eE : resizeE n T (k : Int) (rn : Int) (qn : Int) = if (T k).on = false then 51 else if (qn : Int) < ((T k).c : Int) then 60 else if (n : Int) - (sumP T k 9 : Int) < max (rn : Int) ((T k).c : Int) then 61 else 0 := by
      unfold resizeE; rw [if_neg (by rw [hb]; decide), Int.toNat_natCast]
    have eT : resizeT n T (k : Int) (rn : Int) (qn : Int) = if resizeE n T (k : Int) (rn : Int) (qn : Int) = 0 then setT T k ⟨true, rn, qn, (T k).c⟩ else T := by
      unfold resizeT; rw [Int.toNat_natCast, Int.toNat_natCast, Int.toNat_natCast]
    have hik := isIn_nat (T := T) k1 k9
    cases hon : (T k).on with
    | false =>
      rw [hon] at hik
      have ca := Lib.hid (eat_no h (k : Int) hik)
      rw [hon, if_pos rfl] at eE
      rw [eE, if_neg (by decide)] at eT
      rw [eE, eT]
      replace h := Lib.hid h
      replace hga := Lib.hid hga
      replace eE := Lib.hid eE
      replace eT := Lib.hid eT
      replace hb := Lib.hid hb
      replace hon := Lib.hid hon
      replace hik := Lib.hid hik
      go_enter Tryd.func28, Tryd.ntmps28
      go_wp2_with fail
      refine cy.out.mono ?_
      rintro e _ ⟨rfl, rfl⟩
      go_wp2_with fail
      refine ca.out.mono ?_
      rintro e _ ⟨rfl, rfl⟩
      go_wp2_with fail
      go_ret
      exact ⟨rfl, h.out, Upd.refl _ _⟩
    | true =>
      rw [hon, if_neg (by decide)] at eE
      have ca := Lib.hid (eat_ok h k k1 k9 hon)
      have c3 := h.f.c k9
      have cs := fun wx (hx : FieldAt wx b rb rw rm n m L T) => eslack0_any hx k
      by_cases hq : (qn : Int) < ((T k).c : Int)
      · rw [if_pos hq] at eE
        rw [eE, if_neg (by decide)] at eT
        rw [eE, eT]
        have d1 : decide (((T k).c : Int) > (qn : Int)) = true := decide_eq_true (by omega)
        have d1' : decide (qn < (T k).c) = true := decide_eq_true (by omega)
        replace h := Lib.hid h
        replace hga := Lib.hid hga
        replace eE := Lib.hid eE
        replace eT := Lib.hid eT
        replace hb := Lib.hid hb
        replace hon := Lib.hid hon
        replace hik := Lib.hid hik
        replace cs := Lib.hid cs
        clear hq
        go_enter Tryd.func28, Tryd.ntmps28
        go_wp2_with fail
        refine cy.out.mono ?_
        rintro e _ ⟨rfl, rfl⟩
        go_wp2_with fail
        refine ca.out.mono ?_
        rintro e _ ⟨rfl, rfl⟩
        go_wp2_with fail
        go_ret
        exact ⟨rfl, h.out, Upd.refl _ _⟩
      · rw [if_neg hq] at eE
        have d1 : decide (((T k).c : Int) > (qn : Int)) = false := decide_eq_false (by omega)
        have d1' : decide (qn < (T k).c) = false := decide_eq_false (by omega)
        have c3d : w.drew.cell? ⟨b, 1 + k * 4 + 3, none⟩ = _ := h.f.c k9
        have hd := h.below (Below.refl _ _).drew
        obtain ⟨M, hM, hM2⟩ : ∃ M : Nat, (if rn < (T k).c then ((T k).c : Int) else (rn : Int)) = (M : Int) ∧ max (rn : Int) ((T k).c : Int) = (M : Int) := by
          by_cases hx : rn < (T k).c
          · exact ⟨(T k).c, if_pos hx, by omega⟩
          · exact ⟨rn, if_neg hx, by omega⟩
        rw [hM2] at eE
        by_cases hs : (n : Int) - (sumP T k 9 : Int) < (M : Int)
        · rw [if_pos hs] at eE
          rw [eE, if_neg (by decide)] at eT
          rw [eE, eT]
          have d2 : decide ((n : Int) - (sumP T k 9 : Int) < (M : Int)) = true := decide_eq_true hs
          clear hs hq hM2
          generalize hC : (T k).c = C at *
          generalize sumP T k 9 = S at *
          replace h := Lib.hid h
          replace hga := Lib.hid hga
          replace eE := Lib.hid eE
          replace eT := Lib.hid eT
          replace hb := Lib.hid hb
          replace hon := Lib.hid hon
          replace hik := Lib.hid hik
          replace hd := Lib.hid hd
          replace cs := Lib.hid cs
          replace hC := Lib.hid hC
          go_enter Tryd.func28, Tryd.ntmps28
          go_wp2_with fail
          refine cy.out.mono ?_
          rintro e _ ⟨rfl, rfl⟩
          go_wp2_with fail
          refine ca.out.mono ?_
          rintro e _ ⟨rfl, rfl⟩
          go_wp2_with fail
          refine wp_region_held_drew (S := (fun w' => w'.cell? ⟨b, 1 + k * 4 + 3, none⟩ = some (.int .i64 (C : Int)))) (by kernel_rfl) (c3d) (fun hHeld => ?_)
          refine held_take (i := 0) (v := ?_) rfl (by kernel_rfl) (by kernel_rfl) (by kernel_rfl) (fun _ _ _ h => h) (Or.inl ⟨by rfl, ?_⟩) (by assumption) ?_
          rotate_left
          · intro w hSw; (try dsimp only at hSw); go_simp; try with_reducible rfl
          try simp only [Act.put, List.setIfInBounds_toArray, List.set_cons_zero, List.set_cons_succ]
          refine held_take (i := 1) (v := ?_) rfl (by kernel_rfl) (by kernel_rfl) (by kernel_rfl) (fun _ _ _ h => h) (Or.inl ⟨by rfl, ?_⟩) (by assumption) ?_
          rotate_left
          · intro w hSw; (try dsimp only at hSw); go_simp; try with_reducible rfl
          try simp only [Act.put, List.setIfInBounds_toArray, List.set_cons_zero, List.set_cons_succ]
          refine held_take (i := 3) (v := ?_) rfl (by kernel_rfl) (by kernel_rfl) (by kernel_rfl) (fun _ _ _ h => h) (Or.inl ⟨by rfl, ?_⟩) (by assumption) ?_
          rotate_left
          · intro w hSw; (try dsimp only at hSw); go_simp; try with_reducible rfl
          try simp only [Act.put, List.setIfInBounds_toArray, List.set_cons_zero, List.set_cons_succ]
          refine held_take (i := 4) (v := ?_) rfl (by kernel_rfl) (by kernel_rfl) (by kernel_rfl) (fun _ _ _ h => h) (Or.inl ⟨by rfl, ?_⟩) (by assumption) ?_
          rotate_left
          · intro w hSw; (try dsimp only at hSw); go_simp; try with_reducible rfl
          try simp only [Act.put, List.setIfInBounds_toArray, List.set_cons_zero, List.set_cons_succ]
          refine held_take (i := 5) (v := ?_) rfl (by kernel_rfl) (by kernel_rfl) (by kernel_rfl) (fun _ _ _ h => h) (Or.inl ⟨by rfl, ?_⟩) (by assumption) ?_
          rotate_left
          · intro w hSw; (try dsimp only at hSw); go_simp; try with_reducible rfl
          try simp only [Act.put, List.setIfInBounds_toArray, List.set_cons_zero, List.set_cons_succ]
          refine held_take (i := 6) (v := ?_) rfl (by kernel_rfl) (by kernel_rfl) (by kernel_rfl) (fun _ _ _ h => h) (Or.inl ⟨by rfl, ?_⟩) (by assumption) ?_
          rotate_left
          · intro w hSw; (try dsimp only at hSw); go_simp; try with_reducible rfl
          try simp only [Act.put, List.setIfInBounds_toArray, List.set_cons_zero, List.set_cons_succ]
          refine held_take (i := 7) (v := ?_) rfl (by kernel_rfl) (by kernel_rfl) (by kernel_rfl) (fun _ _ _ h => h) (Or.inl ⟨by rfl, ?_⟩) (by assumption) ?_
          rotate_left
          · intro w hSw; (try dsimp only at hSw); go_simp; try with_reducible rfl
          try simp only [Act.put, List.setIfInBounds_toArray, List.set_cons_zero, List.set_cons_succ]
          refine held_take (i := 8) (v := ?_) rfl (by kernel_rfl) (by kernel_rfl) (by kernel_rfl) (fun _ _ _ h => h) (Or.inl ⟨by rfl, ?_⟩) (by assumption) ?_
          rotate_left
          · intro w hSw; (try dsimp only at hSw); go_simp; try with_reducible rfl
          try simp only [Act.put, List.setIfInBounds_toArray, List.set_cons_zero, List.set_cons_succ]
          refine held_ready (i := 2) rfl (by kernel_rfl) (fun K hK => ?_)
          go_simp
          refine (cs.out _ hd.out).mono ?_
          rintro e w1 ⟨rfl, B1⟩
          have q3 := (B1.cell (block_lt_of_cell c3d)).trans c3d
          have h1 := hd.out.below B1
          have L1 : Below w.heap.size w w1 := ((Below.refl _ w).drew).trans B1
          replace h1 := Lib.hid h1
          replace L1 := Lib.hid L1
          clear B1
          refine hK.out _ _ (q3) (fun hHeldN => ?_)
          clear hHeld hK K
          have hHeld := hHeldN
          clear hHeldN
          try simp only [Act.put, List.setIfInBounds_toArray, List.set_cons_zero, List.set_cons_succ]
          refine held_take (i := 9) (v := ?_) rfl (by kernel_rfl) (by kernel_rfl) (by kernel_rfl) (fun _ _ _ h => h) (Or.inl ⟨by rfl, ?_⟩) (by assumption) ?_
          rotate_left
          · intro w hSw; (try dsimp only at hSw); go_simp; try with_reducible rfl
          try simp only [Act.put, List.setIfInBounds_toArray, List.set_cons_zero, List.set_cons_succ]
          refine held_take (i := 10) (v := ?_) rfl (by kernel_rfl) (by kernel_rfl) (by kernel_rfl) (fun _ _ _ h => h) (Or.inl ⟨by rfl, ?_⟩) (by assumption) ?_
          rotate_left
          · intro w hSw; (try dsimp only at hSw); go_simp; try with_reducible rfl
          try simp only [Act.put, List.setIfInBounds_toArray, List.set_cons_zero, List.set_cons_succ]
          refine wpAnyH_done (by kernel_rfl) ?_ _
          clear hHeld
          go_wp2_with fail
          go_ret
          exact ⟨rfl, h1.out, four_below L1.out⟩
        · rw [if_neg hs] at eE
          rw [eE, if_pos rfl] at eT
          rw [eT] at hga
          rw [eE, eT]
          have d2 : decide ((n : Int) - (sumP T k 9 : Int) < (M : Int)) = false := decide_eq_false hs
          clear hs hq hM2
          generalize hC : (T k).c = C at *
          generalize sumP T k 9 = S at *
          replace h := Lib.hid h
          replace hga := Lib.hid hga
          replace eE := Lib.hid eE
          replace eT := Lib.hid eT
          replace hb := Lib.hid hb
          replace hon := Lib.hid hon
          replace hik := Lib.hid hik
          replace hd := Lib.hid hd
          replace cs := Lib.hid cs
          replace hC := Lib.hid hC
          go_enter Tryd.func28, Tryd.ntmps28
          go_wp2_with fail
          refine cy.out.mono ?_
          rintro e _ ⟨rfl, rfl⟩
          go_wp2_with fail
          refine ca.out.mono ?_
          rintro e _ ⟨rfl, rfl⟩
          go_wp2_with fail
          refine wp_region_held_drew (S := (fun w' => w'.cell? ⟨b, 1 + k * 4 + 3, none⟩ = some (.int .i64 (C : Int)))) (by kernel_rfl) (c3d) (fun hHeld => ?_)
          refine held_take (i := 0) (v := ?_) rfl (by kernel_rfl) (by kernel_rfl) (by kernel_rfl) (fun _ _ _ h => h) (Or.inl ⟨by rfl, ?_⟩) (by assumption) ?_
          rotate_left
          · intro w hSw; (try dsimp only at hSw); go_simp; try with_reducible rfl
          try simp only [Act.put, List.setIfInBounds_toArray, List.set_cons_zero, List.set_cons_succ]
          refine held_take (i := 1) (v := ?_) rfl (by kernel_rfl) (by kernel_rfl) (by kernel_rfl) (fun _ _ _ h => h) (Or.inl ⟨by rfl, ?_⟩) (by assumption) ?_
          rotate_left
          · intro w hSw; (try dsimp only at hSw); go_simp; try with_reducible rfl
          try simp only [Act.put, List.setIfInBounds_toArray, List.set_cons_zero, List.set_cons_succ]
          refine held_take (i := 3) (v := ?_) rfl (by kernel_rfl) (by kernel_rfl) (by kernel_rfl) (fun _ _ _ h => h) (Or.inl ⟨by rfl, ?_⟩) (by assumption) ?_
          rotate_left
          · intro w hSw; (try dsimp only at hSw); go_simp; try with_reducible rfl
          try simp only [Act.put, List.setIfInBounds_toArray, List.set_cons_zero, List.set_cons_succ]
          refine held_take (i := 4) (v := ?_) rfl (by kernel_rfl) (by kernel_rfl) (by kernel_rfl) (fun _ _ _ h => h) (Or.inl ⟨by rfl, ?_⟩) (by assumption) ?_
          rotate_left
          · intro w hSw; (try dsimp only at hSw); go_simp; try with_reducible rfl
          try simp only [Act.put, List.setIfInBounds_toArray, List.set_cons_zero, List.set_cons_succ]
          refine held_take (i := 5) (v := ?_) rfl (by kernel_rfl) (by kernel_rfl) (by kernel_rfl) (fun _ _ _ h => h) (Or.inl ⟨by rfl, ?_⟩) (by assumption) ?_
          rotate_left
          · intro w hSw; (try dsimp only at hSw); go_simp; try with_reducible rfl
          try simp only [Act.put, List.setIfInBounds_toArray, List.set_cons_zero, List.set_cons_succ]
          refine held_take (i := 6) (v := ?_) rfl (by kernel_rfl) (by kernel_rfl) (by kernel_rfl) (fun _ _ _ h => h) (Or.inl ⟨by rfl, ?_⟩) (by assumption) ?_
          rotate_left
          · intro w hSw; (try dsimp only at hSw); go_simp; try with_reducible rfl
          try simp only [Act.put, List.setIfInBounds_toArray, List.set_cons_zero, List.set_cons_succ]
          refine held_take (i := 7) (v := ?_) rfl (by kernel_rfl) (by kernel_rfl) (by kernel_rfl) (fun _ _ _ h => h) (Or.inl ⟨by rfl, ?_⟩) (by assumption) ?_
          rotate_left
          · intro w hSw; (try dsimp only at hSw); go_simp; try with_reducible rfl
          try simp only [Act.put, List.setIfInBounds_toArray, List.set_cons_zero, List.set_cons_succ]
          refine held_take (i := 8) (v := ?_) rfl (by kernel_rfl) (by kernel_rfl) (by kernel_rfl) (fun _ _ _ h => h) (Or.inl ⟨by rfl, ?_⟩) (by assumption) ?_
          rotate_left
          · intro w hSw; (try dsimp only at hSw); go_simp; try with_reducible rfl
          try simp only [Act.put, List.setIfInBounds_toArray, List.set_cons_zero, List.set_cons_succ]
          refine held_ready (i := 2) rfl (by kernel_rfl) (fun K hK => ?_)
          go_simp
          refine (cs.out _ hd.out).mono ?_
          rintro e w1 ⟨rfl, B1⟩
          have q3 := (B1.cell (block_lt_of_cell c3d)).trans c3d
          have h1 := hd.out.below B1
          have L1 : Below w.heap.size w w1 := ((Below.refl _ w).drew).trans B1
          replace h1 := Lib.hid h1
          replace L1 := Lib.hid L1
          clear B1
          refine hK.out _ _ (q3) (fun hHeldN => ?_)
          clear hHeld hK K
          have hHeld := hHeldN
          clear hHeldN
          try simp only [Act.put, List.setIfInBounds_toArray, List.set_cons_zero, List.set_cons_succ]
          refine held_take (i := 9) (v := ?_) rfl (by kernel_rfl) (by kernel_rfl) (by kernel_rfl) (fun _ _ _ h => h) (Or.inl ⟨by rfl, ?_⟩) (by assumption) ?_
          rotate_left
          · intro w hSw; (try dsimp only at hSw); go_simp; try with_reducible rfl
          try simp only [Act.put, List.setIfInBounds_toArray, List.set_cons_zero, List.set_cons_succ]
          refine held_take (i := 10) (v := ?_) rfl (by kernel_rfl) (by kernel_rfl) (by kernel_rfl) (fun _ _ _ h => h) (Or.inl ⟨by rfl, ?_⟩) (by assumption) ?_
          rotate_left
          · intro w hSw; (try dsimp only at hSw); go_simp; try with_reducible rfl
          try simp only [Act.put, List.setIfInBounds_toArray, List.set_cons_zero, List.set_cons_succ]
          refine wpAnyH_done (by kernel_rfl) ?_ _
          clear hHeld
          have u1 := h1.out.f.r k9
          have u2 := h1.out.f.q k9
          have z1 := h1.out.f.frozen (1 + k * 4 + 1)
          have z2 := h1.out.f.frozen (1 + k * 4 + 2)
          have hf0 := (h1.out.f.limR k9 rn).limQ k9 qn
          simp only [setT_same, setT_twice, hon.out, hC.out] at hf0
          have hU : Upd (fun k => k = b) w1 ((w1.setCell ⟨b, 1 + k * 4 + 1, none⟩ (.int .i64 (rn : Int))).setCell ⟨b, 1 + k * 4 + 2, none⟩ (.int .i64 (qn : Int))) := ((Upd.refl (fun k => k = b) w1).setCell ⟨b, 1 + k * 4 + 1, none⟩ (.int .i64 (rn : Int)) (fun _ => rfl)).setCell ⟨b, 1 + k * 4 + 2, none⟩ (.int .i64 (qn : Int)) (fun _ => rfl)
          have hF := h1.out.turn hf0 hU hga.out
          have hV := (four_below (rb := rb) (rw := rw) (rm := rm) (b := b) L1.out).trans (upd_four hU) (fun _ _ h => h)
          replace hU := Lib.hid hU
          replace hF := Lib.hid hF
          replace hV := Lib.hid hV
          replace hf0 := Lib.hid hf0
          go_wp2_with fail
          go_ret
          exact ⟨rfl, hF.out, hV.out⟩
/-- A field whose row alone turns. -/
theorem FieldAt.rows (h : FieldAt w b rb rw rm n m L T) {w' : World} {m' : Nat} {L' : Nat → Nat} {T' : Nat → Ten} (hr : RowAt w' rb rw rm n m' L') (hU : Upd (Three rb rw rm) w w') (hT : T' = T) (hg : Good n L' T') : FieldAt w' b rb rw rm n m' L' T' := by
  subst hT
  exact ⟨h.f.other (hU.block _ h.f.lt fun e => e.elim (fun e => h.ne.1 e) (fun e => e.elim (fun e => h.ne.2.1 e) (fun e => h.ne.2.2 e))), hr, h.ne, hg, h.small⟩
theorem four_three {w w' : World} {b rb rw rm : Nat} (hU : Upd (Three rb rw rm) w w') : Upd (Four b rb rw rm) w w' := hU.mono fun _ _ e => .inr e
theorem holdL_lt {n : Nat} {L : Nat → Nat} {x : Nat} (h : x < n) : holdL n L (x : Int) = if holdRes n L (x : Int) = 0 then up L x (L x + 1) else L := by
  unfold holdL
  rw [holdRes_lt h, if_neg (by omega), Int.toNat_natCast]
  by_cases e : L x = 2147483647
  · rw [if_pos e, if_pos e, if_neg (by decide)]
  · rw [if_neg e, if_neg e, if_pos rfl]
theorem timesI_lt {n : Nat} {L : Nat → Nat} {x : Nat} (h : x < n) : timesI n L (x : Int) = (L x : Int) := by
  unfold timesI; rw [if_neg (by omega), Int.toNat_natCast]
set_option maxHeartbeats 4000000 in
set_option maxRecDepth 100000 in
theorem ehold_any (h : FieldAt w b rb rw rm n m L T) (hm : m < 1000000000) (x : Nat) (hx : x < 4294967296) :
    Calls Tryd.prog 31 #[.pointer (some ⟨b, 0, none⟩), .int .u32 (x : Int)] w (FieldSays b rb rw rm n (m + 1) (hold1L n L x) T (hold1E n L x) w) := by
  have ch := Lib.hid (ethere_any h x hx)
  have hgh := h.good.hold1 x
  by_cases hn : n ≤ x
  · have eE : hold1E n L x = 1 := by unfold hold1E; rw [if_pos hn]
    have eL : hold1L n L x = L := by unfold hold1L; rw [if_neg (by rw [eE]; decide)]
    rw [eE, eL]
    rw [if_pos hn] at ch
    replace h := Lib.hid h
    replace hgh := Lib.hid hgh
    replace eE := Lib.hid eE
    replace eL := Lib.hid eL
    clear hn
    go_enter Tryd.func31, Tryd.ntmps31
    go_wp2_with fail
    refine ch.out.mono ?_
    rintro e _ ⟨rfl, rfl⟩
    go_wp2_with fail
    go_ret
    exact ⟨rfl, h.out.mono (by omega), Upd.refl _ _⟩
  · rw [if_neg hn] at ch
    have ct := etimes_any h x hx
    rw [timesI_lt (by omega)] at ct
    by_cases h0 : L x = 0
    · have eE : hold1E n L x = 7 := by unfold hold1E; rw [if_neg hn, if_pos h0]
      have eL : hold1L n L x = L := by unfold hold1L; rw [if_neg (by rw [eE]; decide)]
      rw [eE, eL]
      rw [h0, show ((0 : Nat) : Int) = 0 from rfl] at ct
      replace h := Lib.hid h
      replace hgh := Lib.hid hgh
      replace eE := Lib.hid eE
      replace eL := Lib.hid eL
      replace ct := Lib.hid ct
      clear hn h0
      go_enter Tryd.func31, Tryd.ntmps31
      go_wp2_with fail
      refine ch.out.mono ?_
      rintro e _ ⟨rfl, rfl⟩
      go_wp2_with fail
      refine ct.out.mono ?_
      rintro e _ ⟨rfl, rfl⟩
      go_wp2_with fail
      go_ret
      exact ⟨rfl, h.out.mono (by omega), Upd.refl _ _⟩
    · have eE : hold1E n L x = holdRes n L (x : Int) := by unfold hold1E; rw [if_neg hn, if_neg h0]
      have eL : hold1L n L x = holdL n L (x : Int) := by unfold hold1L; rw [eE, holdL_lt (by omega)]
      rw [eL] at hgh
      rw [eE, eL]
      have c0 := h.f.row
      have cr := Lib.hid (hold_any h.r (by omega) (x : Int))
      have d1 : ((L x : Int) == 0) = false := beq_eq_false_iff_ne.2 (by omega)
      generalize L x = lx at *
      replace h := Lib.hid h
      replace hgh := Lib.hid hgh
      replace eE := Lib.hid eE
      replace eL := Lib.hid eL
      replace ct := Lib.hid ct
      clear hn h0
      go_enter Tryd.func31, Tryd.ntmps31
      go_wp2_with fail
      refine ch.out.mono ?_
      rintro e _ ⟨rfl, rfl⟩
      go_wp2_with fail
      refine ct.out.mono ?_
      rintro e _ ⟨rfl, rfl⟩
      go_wp2_with fail
      refine cr.out.mono ?_
      rintro e w1 ⟨rfl, R1, U1⟩
      have h1 := h.out.rows R1 U1 rfl hgh.out
      have hV := four_three (b := b) U1
      clear R1 U1
      replace h1 := Lib.hid h1
      replace hV := Lib.hid hV
      go_wp2_with fail
      go_ret
      exact ⟨rfl, h1.out, hV.out⟩
end
end Go.Proofs.YtjhfoddhpmmjoaaDoor
namespace Go.Proofs.YtjhfoddhpmmjoaaDoor
set_option maxRecDepth 100000
open Go.RowKit

def takeE (n : Nat) (T : Nat → Ten) (t : Int) : Int := if isIn T t = false then 51 else roomE n T (T t.toNat)
theorem TabAt.below {w w' : World} (h : TabAt w) (hB : Below w.heap.size w w') : TabAt w' := fun i v hv => (hB.cell (block_lt_of_cell (h i v hv))).trans (h i v hv)
section
variable {w : World} {b rb rw rm n m : Nat} {L : Nat → Nat} {T : Nat → Ten}
set_option maxHeartbeats 4000000 in
set_option maxRecDepth 100000 in
theorem etake_no (h : FieldAt w b rb rw rm n m L T) (t : Int) (hE : takeE n T t ≠ 0) :
    Calls Tryd.prog 21 #[.pointer (some ⟨b, 0, none⟩), .int .i64 t] w fun e w' => e = .returned (.tuple #[.int .u32 0, .int .i64 (takeE n T t)]) ∧ Below w.heap.size w w' := by
  have cm := Lib.hid (emade_any h)
  cases hi : isIn T t with
  | false =>
    have eE : takeE n T t = 51 := by unfold takeE; rw [if_pos hi]
    rw [eE]
    have ca := Lib.hid (eat_no h t hi)
    replace h := Lib.hid h
    replace eE := Lib.hid eE
    replace hi := Lib.hid hi
    replace hE := Lib.hid hE
    go_enter Tryd.func21, Tryd.ntmps21
    go_wp2_with fail
    refine ca.out.mono ?_
    rintro e _ ⟨rfl, rfl⟩
    go_wp2_with fail
    refine cm.out.mono ?_
    rintro e _ ⟨rfl, rfl⟩
    go_wp2_with fail
    go_ret2
    exact ⟨rfl, Below.refl _ _⟩
  | true =>
    obtain ⟨k1, k8, ek, hon⟩ := isIn_pos hi
    have ca := eat_ok h t.toNat k1 (by omega) hon
    have cr := eroom_any h t.toNat (by omega)
    have eE : takeE n T t = roomE n T (T t.toNat) := by unfold takeE; rw [if_neg (by rw [hi]; decide)]
    rw [ek] at ca
    rw [← eE] at cr
    generalize takeE n T t = E at *
    have d1 : (E == 0) = false := beq_eq_false_iff_ne.2 hE
    have d2 : (E != 0) = true := by rw [bne, d1]; rfl
    generalize t.toNat = k at *
    replace h := Lib.hid h
    replace eE := Lib.hid eE
    replace hi := Lib.hid hi
    replace hon := Lib.hid hon
    replace ek := Lib.hid ek
    replace ca := Lib.hid ca
    replace cr := Lib.hid cr
    go_enter Tryd.func21, Tryd.ntmps21
    go_wp2_with fail
    refine ca.out.mono ?_
    rintro e _ ⟨rfl, rfl⟩
    go_wp2_with fail
    refine cm.out.mono ?_
    rintro e _ ⟨rfl, rfl⟩
    go_wp2_with fail
    refine cr.out.mono ?_
    rintro e w1 ⟨rfl, B1⟩
    replace B1 := Lib.hid B1
    go_wp2_with fail
    go_ret2
    exact ⟨rfl, B1.out⟩
/-- What Take says where there is room. -/
def TakeSays (b rb rw rm n m : Nat) (L : Nat → Nat) (T : Nat → Ten) (t : Nat) (w : World) (e : Ending) (w' : World) : Prop :=
  ∃ i, i < n ∧ L i = 0 ∧ (∀ j, j < i → 0 < L j) ∧ e = .returned (.tuple #[.int .u32 (i : Int), .int .i64 0]) ∧ FieldAt w' b rb rw rm n (m + 1) (up L i 1) (bumpT T t) ∧ Upd (Four b rb rw rm) w w'
set_option maxHeartbeats 4000000 in
set_option maxRecDepth 100000 in
theorem etake_ok (h : FieldAt w b rb rw rm n m L T) (hT : TabAt w) (hm : m < 1000000000) (t : Int) (hE : takeE n T t = 0) :
    Calls Tryd.prog 21 #[.pointer (some ⟨b, 0, none⟩), .int .i64 t] w (TakeSays b rb rw rm n m L T t.toNat w) := by
  have cm := Lib.hid (emade_any h)
  have hi : isIn T t = true := by
    unfold takeE at hE
    cases hi : isIn T t with
    | false => rw [if_pos hi] at hE; omega
    | true => rfl
  obtain ⟨k1, k8, ek, hon⟩ := isIn_pos hi
  have hr : roomE n T (T t.toNat) = 0 := by unfold takeE at hE; rwa [if_neg (by rw [hi]; decide)] at hE
  obtain ⟨i0, hi0, hL0⟩ := h.good.free hi hr
  have hgb := fun i (hi' : i < n) (h0 : L i = 0) => h.good.bump hi hr hi' h0
  have ca := eat_ok h t.toNat k1 (by omega) hon
  have cr := eroom_any h t.toNat (by omega)
  have k9 : t.toNat < 9 := by omega
  have hsm := h.small
  rw [ek] at ca
  rw [hr] at cr
  generalize t.toNat = k at *
  replace h := Lib.hid h
  replace hi := Lib.hid hi
  replace hon := Lib.hid hon
  replace ek := Lib.hid ek
  replace ca := Lib.hid ca
  replace cr := Lib.hid cr
  replace hE := Lib.hid hE
  replace hr := Lib.hid hr
  replace hgb := Lib.hid hgb
  replace hT := Lib.hid hT
  go_enter Tryd.func21, Tryd.ntmps21
  go_wp2_with fail
  refine ca.out.mono ?_
  rintro e _ ⟨rfl, rfl⟩
  go_wp2_with fail
  refine cm.out.mono ?_
  rintro e _ ⟨rfl, rfl⟩
  go_wp2_with fail
  refine cr.out.mono ?_
  rintro e w1 ⟨rfl, B1⟩
  have h1 := h.out.below B1
  have T1 := hT.out.below B1
  have c0 := h1.f.row
  have cf := Lib.hid (free_all h1.r T1 0)
  clear ca cm cr h
  replace B1 := Lib.hid B1
  replace h1 := Lib.hid h1
  replace T1 := Lib.hid T1
  go_wp2_with fail
  refine cf.out.mono ?_
  rintro e _ ⟨x, hx, rfl, rfl⟩
  clear cf
  cases x with
  | none => exact absurd hL0 (by have := hx i0 (Nat.zero_le _) hi0; omega)
  | some i =>
    obtain ⟨-, x2, x3, x4⟩ := hx
    simp only [Option.getD_some, Option.isSome_some]
    have ch := hold_any h1.out.r (by omega) (i : Int)
    have e1 : holdRes n L (i : Int) = 0 := by rw [holdRes_lt x2, if_neg (by omega)]
    have e2 : holdL n L (i : Int) = up L i 1 := by rw [holdL_lt x2, if_pos e1, x3]
    have hi32 : (i : Int) < 4294967296 := by omega
    have hg := hgb.out i x2 x3
    replace ch := Lib.hid ch
    replace e1 := Lib.hid e1
    replace e2 := Lib.hid e2
    replace hg := Lib.hid hg
    clear hgb hL0
    go_wp2_with fail
    refine ch.out.mono ?_
    rintro e w2 ⟨rfl, R2, U2⟩
    rw [e1.out]
    rw [e2.out] at R2
    have F2 : FieldB w2 b (some ⟨rb, 0, none⟩) T := h1.out.f.other (U2.block _ h1.out.f.lt fun e => e.elim (fun e => h1.out.ne.1 e) (fun e => e.elim (fun e => h1.out.ne.2.1 e) (fun e => h1.out.ne.2.2 e)))
    have c3 := F2.c k9
    have z3 := F2.frozen (1 + k * 4 + 3)
    have F3 := F2.bump k9 ((T k).c + 1)
    have hcl := (h1.out.good.lim k)
    have hc1 : ((((T k).c + 1 : Nat)) : Int) = ((T k).c : Int) + 1 := by omega
    rw [hc1] at F3
    have hcb : (T k).c ≤ 2048 := by omega
    have hU : Upd (fun k => k = b) w2 (w2.setCell ⟨b, 1 + k * 4 + 3, none⟩ (.int .i64 (((T k).c : Int) + 1))) := (Upd.refl (fun k => k = b) w2).setCell ⟨b, 1 + k * 4 + 3, none⟩ _ (fun _ => rfl)
    have F4 : FieldAt (w2.setCell ⟨b, 1 + k * 4 + 3, none⟩ (.int .i64 (((T k).c : Int) + 1))) b rb rw rm n (m + 1) (up L i 1) (bumpT T k) :=
      ⟨F3, R2.stay hU (fun e => h1.out.ne.1 e.symm) (fun e => h1.out.ne.2.1 e.symm) (fun e => h1.out.ne.2.2 e.symm), h1.out.ne, hg.out, hsm⟩
    have hV := ((four_below (rb := rb) (rw := rw) (rm := rm) (b := b) B1.out).trans (four_three U2) (fun _ _ h => h)).trans (upd_four hU) (fun _ _ h => h)
    have x5 : ∀ j, j < i → 0 < L j := fun j hj => Nat.pos_of_ne_zero (x4 j (Nat.zero_le _) hj)
    clear ch R2 U2 F2 F3 hU x4 hcl hc1
    replace F4 := Lib.hid F4
    replace hV := Lib.hid hV
    replace x5 := Lib.hid x5
    go_wp2_with fail
    go_ret2
    exact ⟨i, x2, x3, x5.out, rfl, F4.out, hV.out⟩
end
end Go.Proofs.YtjhfoddhpmmjoaaDoor
