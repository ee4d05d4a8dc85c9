/-
  The reference of layer 17: Resize. Condition: the blocks are its own.
-/
import Derived.Test.YtjhfoddhpmmjoaaDoorRefE7
namespace Go.Proofs.YtjhfoddhpmmjoaaDoor
set_option maxRecDepth 100000
open Go.RowKit
theorem yieldsIf_ten {ops : Array Oper} {S : World → Prop} {o : Oper} {a : Act} (hw : Region.wanted o (yielded ops a.tmps) = true) {x : Operand} (ho : o.op = .load 57 x)
    {g : Nat} (hx : a.eval x = .pointer (some ⟨g, 0, none⟩)) (t : Ten) (hS : ∀ w, S w → w.heap[g]? = some (.cells (tenV t).toArray 57 (0, 0))) : YieldsIf Tryd.prog ops S o (.agg #[.bool t.on, .int .i64 (t.r : Int), .int .i64 (t.q : Int), .int .i64 (t.c : Int)]) a :=
  .inl ⟨hw, fun w hw' => by
    unfold execOp
    simp only [ho, hx, Instr.loadAt, Instr.sureAddr, Sem.run_bind, Sem.run_pure, Result.andThen_ok, run_loadVar_row w g 57 57 (tenV t).toArray (0, 0) _ (hS w hw') Tryd.underlying57 rfl infoQTen4]
    rfl⟩
section
variable {w : World} {c cl n : Nat} {L : Nat → Nat} {T : Nat → Ten}
set_option maxHeartbeats 4000000 in
set_option maxRecDepth 100000 in
theorem qresize_any (h : RefE w c cl n L T) (t r q : Int) :
    Calls Tryd.prog 54 #[.pointer (some ⟨c, 0, none⟩), .int .i64 t, .int .i64 r, .int .i64 q] w (RSays c cl n L (resizeT n T t r q) (resizeE n T t r q) w) := by
  have cy := Lib.hid (qwrong_any h t r q)
  have ci := Lib.hid (qin_any h t)
  have hga := h.good.resize t r q
  cases hb : badLim n t r q with
  | true =>
    rw [hb] at cy
    have eE : resizeE n T t r q = 1 := by unfold resizeE; rw [if_pos hb]
    have eT : resizeT n T t r q = T := by unfold resizeT; rw [if_neg (by rw [eE]; decide)]
    rw [eE, eT]
    replace h := Lib.hid h
    replace hga := Lib.hid hga
    replace eE := Lib.hid eE
    replace eT := Lib.hid eT
    replace hb := Lib.hid hb
    go_enter Tryd.func54, Tryd.ntmps54
    go_wp2_with fail
    refine cy.out.mono ?_
    rintro e _ ⟨rfl, rfl⟩
    go_wp2_with fail
    go_ret
    exact ⟨rfl, h.out, Upd.refl _ _⟩
  | false =>
    rw [hb] at cy
    obtain ⟨k, rn, qn, rfl, rfl, rfl, k1, k9, h3, h4⟩ := badLim_false hb
    rw [isIn_nat k1 k9] at ci
    have eE0 : resizeE n T (k : Int) (rn : Int) (qn : Int) = if (T k).on = false then 51 else if (qn : Int) < ((T k).c : Int) then 60 else if (n : Int) - (sumP T k 9 : Int) < max (rn : Int) ((T k).c : Int) then 61 else 0 := by
      unfold resizeE; rw [if_neg (by rw [hb]; decide), Int.toNat_natCast]
    have eT0 : resizeT n T (k : Int) (rn : Int) (qn : Int) = if resizeE n T (k : Int) (rn : Int) (qn : Int) = 0 then setT T k ⟨true, rn, qn, (T k).c⟩ else T := by
      unfold resizeT; rw [Int.toNat_natCast, Int.toNat_natCast, Int.toNat_natCast]
    cases hon : (T k).on with
    | false =>
      rw [hon] at ci
      rw [if_pos hon] at eE0
      rw [eE0, if_neg (by decide)] at eT0
      rw [eE0, eT0]
      replace h := Lib.hid h
      replace hga := Lib.hid hga
      replace eE0 := Lib.hid eE0
      replace eT0 := Lib.hid eT0
      replace hb := Lib.hid hb
      replace hon := Lib.hid hon
      go_enter Tryd.func54, Tryd.ntmps54
      go_wp2_with fail
      refine cy.out.mono ?_
      rintro e _ ⟨rfl, rfl⟩
      go_wp2_with fail
      refine ci.out.mono ?_
      rintro e _ ⟨rfl, rfl⟩
      go_wp2_with fail
      go_ret
      exact ⟨rfl, h.out, Upd.refl _ _⟩
    | true =>
      rw [hon] at ci
      rw [if_neg (by rw [hon]; decide)] at eE0
      have hsm := h.small
      have hlim := h.good.lim k
      have hfit := h.good.fits
      have hsP := sumP_all T (but := k) 9
      rw [if_pos (by omega), part_on hon] at hsP
      have d3 : 0 ≤ (k : Int) ∧ (k : Int) < 9 := by omega
      have hs := fun x (hx : RefE x c cl n L T) => qslack_any hx
      have tn := h.ten k9
      have cp := fun z y => qpart_any z y
      obtain ⟨x, ex⟩ : ∃ x, x = T k := ⟨_, rfl⟩
      rw [← ex] at tn eE0 eT0 hlim hsP hon
      by_cases hq : (qn : Int) < (x.c : Int)
      · rw [if_pos hq] at eE0
        rw [eE0, if_neg (by decide)] at eT0
        rw [eE0, eT0]
        have d4 : decide ((x.c : Int) > (qn : Int)) = true := decide_eq_true (by omega)
        have d4n : qn < x.c := by omega
        clear hlim hfit hsP
        replace h := Lib.hid h
        replace hga := Lib.hid hga
        replace eE0 := Lib.hid eE0
        replace eT0 := Lib.hid eT0
        replace hb := Lib.hid hb
        replace hon := Lib.hid hon
        replace ex := Lib.hid ex
        replace tn := Lib.hid tn
        replace hs := Lib.hid hs
        replace cp := Lib.hid cp
        go_enter Tryd.func54, Tryd.ntmps54
        go_wp2_with fail
        refine cy.out.mono ?_
        rintro e _ ⟨rfl, rfl⟩
        go_wp2_with fail
        refine ci.out.mono ?_
        rintro e _ ⟨rfl, rfl⟩
        go_wp2_with (first
          | refine wpList_load_mid (by rfl) 57 (.tmp 24) rfl c (1 + k * 4) rfl (tenV x) _ tn.out Tryd.underlying57 rfl (infoQTen x) ?_
          | (refine wpList_store_ten (by rfl) (.tmp 9) (.tmp 25) rfl x rfl rfl rfl ?_; intro w2 R2 B2; obtain ⟨y0, y1, y2, y3⟩ := ten_cell R2.out; have h2 := h.out.below B2.out; replace h2 := Lib.hid h2)
          | (refine wpList_store_ten (by rfl) (.tmp 10) (.tmp 34) rfl ⟨true, rn, qn, x.c⟩ rfl rfl rfl ?_; intro w3 R3 B3))
        go_ret
        exact ⟨rfl, h2.out, two_below B2.out⟩
      · rw [if_neg hq] at eE0
        have d4 : decide ((x.c : Int) > (qn : Int)) = false := decide_eq_false (by omega)
        have d4n : ¬ qn < x.c := by omega
        have emx : max (rn : Int) (x.c : Int) = ((max rn x.c : Nat) : Int) := by omega
        rw [emx] at eE0
        have cpx := fun z => cp z x
        have cpy := fun z => cp z ⟨true, rn, qn, x.c⟩
        simp only at cpy
        have hsP' : sumP T k 9 + max x.r x.c = sumA T 9 := hsP
        have hM : max rn x.c ≤ n := by omega
        generalize max rn x.c = M at *
        generalize max x.r x.c = p at *
        generalize hA : sumA T 9 = A at *
        generalize sumP T k 9 = Z at *
        have d5 : IntKind.i64.wrap ((n : Int) - (A : Int) + (p : Int)) = (n : Int) - (Z : Int) := by rw [IntWalk.i64_in _ (by omega)]; omega
        by_cases hz : (n : Int) - (Z : Int) < (M : Int)
        · rw [if_pos hz] at eE0
          rw [eE0, if_neg (by decide)] at eT0
          rw [eE0, eT0]
          have d6 : decide ((n : Int) - (Z : Int) < (M : Int)) = true := decide_eq_true hz
          clear hz hlim hfit
          replace h := Lib.hid h
          replace hga := Lib.hid hga
          replace eE0 := Lib.hid eE0
          replace eT0 := Lib.hid eT0
          replace hb := Lib.hid hb
          replace hon := Lib.hid hon
          replace ex := Lib.hid ex
          replace tn := Lib.hid tn
          replace hs := Lib.hid hs
          replace cp := Lib.hid cp
          replace emx := Lib.hid emx
          replace hsP := Lib.hid hsP
          replace hsP' := Lib.hid hsP'
          replace cpx := Lib.hid cpx
          replace cpy := Lib.hid cpy
          replace hA := Lib.hid hA
          go_enter Tryd.func54, Tryd.ntmps54
          go_wp2_with fail
          refine cy.out.mono ?_
          rintro e _ ⟨rfl, rfl⟩
          go_wp2_with fail
          refine ci.out.mono ?_
          rintro e _ ⟨rfl, rfl⟩
          go_wp2_with (first
            | refine wpList_load_mid (by rfl) 57 (.tmp 24) rfl c (1 + k * 4) rfl (tenV x) _ tn.out Tryd.underlying57 rfl (infoQTen x) ?_
            | (refine wpList_store_ten (by rfl) (.tmp 9) (.tmp 25) rfl x rfl rfl rfl ?_; intro w2 R2 B2; obtain ⟨y0, y1, y2, y3⟩ := ten_cell R2.out; have h2 := h.out.below B2.out; replace h2 := Lib.hid h2)
            | (refine wpList_store_ten (by rfl) (.tmp 10) (.tmp 34) rfl ⟨true, rn, qn, x.c⟩ rfl rfl rfl ?_; intro w3 R3 B3))
          have X := (B3.out.block _ (lt_of_block R2.out)).trans R2.out
          have Y := R3.out
          have h3' := (h2.out.below B3.out).drew
          have B4 := ((B2.out.trans (B3.out.mono B2.out.size))).drew
          have hss := hs.out _ h3'
          clear y0 y1 y2 y3 R2 R3 B2 B3
          replace h3' := Lib.hid h3'
          replace B4 := Lib.hid B4
          replace hss := Lib.hid hss
          refine wp_region_held_drew (S := (fun w' => w'.heap[w.heap.size]? = some (.cells (tenV x).toArray 57 (0, 0)) ∧ w'.heap[w2.heap.size]? = some (.cells (tenV ⟨true, rn, qn, x.c⟩).toArray 57 (0, 0)))) (by kernel_rfl) (⟨X, Y⟩) (fun hHeld => ?_)
          refine held_take (i := 0) (v := ?_) rfl (by kernel_rfl) (by kernel_rfl) (by kernel_rfl) (fun _ _ _ h => h) (Or.inl ⟨by rfl, ?_⟩) (by assumption) ?_
          rotate_left
          · intro w hSw; (try dsimp only at hSw); go_simp; try with_reducible rfl
          try simp only [Act.put, List.setIfInBounds_toArray, List.set_cons_zero, List.set_cons_succ]
          refine held_take (i := 2) (v := _) rfl (by kernel_rfl) (by kernel_rfl) (by kernel_rfl) (fun _ _ _ h => h) (yieldsIf_ten (by rfl) rfl rfl x (fun w' h => h.1)) (by assumption) ?_
          try simp only [Act.put, List.setIfInBounds_toArray, List.set_cons_zero, List.set_cons_succ]
          refine held_take (i := 5) (v := _) rfl (by kernel_rfl) (by kernel_rfl) (by kernel_rfl) (fun _ _ _ h => h) (yieldsIf_ten (by rfl) rfl rfl ⟨true, rn, qn, x.c⟩ (fun w' h => h.2)) (by assumption) ?_
          try simp only [Act.put, List.setIfInBounds_toArray, List.set_cons_zero, List.set_cons_succ]
          refine held_ready (i := 1) rfl (by kernel_rfl) (fun K hK => ?_)
          go_simp
          refine hss.out.mono ?_
          rintro e w4 ⟨rfl, C4⟩
          replace X := (C4.block _ (lt_of_block X)).trans X
          replace Y := (C4.block _ (lt_of_block Y)).trans Y
          have h4 := h3'.out.below C4
          have B5 := B4.out.trans (C4.mono B4.out.size)
          clear C4 h3' B4
          replace h4 := Lib.hid h4
          replace B5 := Lib.hid B5
          refine hK.out _ _ (⟨X, Y⟩) (fun hHeldN => ?_)
          clear hHeld hK K
          have hHeld := hHeldN
          clear hHeldN
          try simp only [Act.put, List.setIfInBounds_toArray, List.set_cons_zero, List.set_cons_succ]
          refine held_ready (i := 3) rfl (by kernel_rfl) (fun K hK => ?_)
          go_simp
          refine (cpx.out _).mono ?_
          rintro e w5 ⟨rfl, C5⟩
          replace X := (C5.block _ (lt_of_block X)).trans X
          replace Y := (C5.block _ (lt_of_block Y)).trans Y
          have h5 := h4.out.below C5
          have B6 := B5.out.trans (C5.mono B5.out.size)
          clear C5 h4 B5
          replace h5 := Lib.hid h5
          replace B6 := Lib.hid B6
          refine hK.out _ _ (⟨X, Y⟩) (fun hHeldN => ?_)
          clear hHeld hK K
          have hHeld := hHeldN
          clear hHeldN
          try simp only [Act.put, List.setIfInBounds_toArray, List.set_cons_zero, List.set_cons_succ]
          refine held_take (i := 4) (v := ?_) rfl (by kernel_rfl) (by kernel_rfl) (by kernel_rfl) (fun _ _ _ h => h) (Or.inl ⟨by rfl, ?_⟩) (by assumption) ?_
          rotate_left
          · intro w hSw; (try dsimp only at hSw); go_simp; try with_reducible rfl
          try simp only [Act.put, List.setIfInBounds_toArray, List.set_cons_zero, List.set_cons_succ]
          refine held_ready (i := 6) rfl (by kernel_rfl) (fun K hK => ?_)
          go_simp
          refine (cpy.out _).mono ?_
          rintro e w6 ⟨rfl, C6⟩
          replace X := (C6.block _ (lt_of_block X)).trans X
          replace Y := (C6.block _ (lt_of_block Y)).trans Y
          have h6 := h5.out.below C6
          have B7 := B6.out.trans (C6.mono B6.out.size)
          clear C6 h5 B6
          replace h6 := Lib.hid h6
          replace B7 := Lib.hid B7
          refine hK.out _ _ (⟨X, Y⟩) (fun hHeldN => ?_)
          clear hHeld hK K
          have hHeld := hHeldN
          clear hHeldN
          try simp only [Act.put, List.setIfInBounds_toArray, List.set_cons_zero, List.set_cons_succ]
          refine held_take (i := 7) (v := ?_) rfl (by kernel_rfl) (by kernel_rfl) (by kernel_rfl) (fun _ _ _ h => h) (Or.inl ⟨by rfl, ?_⟩) (by assumption) ?_
          rotate_left
          · intro w hSw; (try dsimp only at hSw); go_simp; try with_reducible rfl
          try simp only [Act.put, List.setIfInBounds_toArray, List.set_cons_zero, List.set_cons_succ]
          refine wpAnyH_done (by kernel_rfl) ?_ _
          clear hHeld
          go_wp2_with fail
          go_ret
          exact ⟨rfl, h6.out, two_below B7.out⟩
        · rw [if_neg hz] at eE0
          rw [eE0, if_pos rfl] at eT0
          rw [eT0] at hga
          rw [eE0, eT0]
          have d6 : decide ((n : Int) - (Z : Int) < (M : Int)) = false := decide_eq_false hz
          clear hz hlim hfit
          replace h := Lib.hid h
          replace hga := Lib.hid hga
          replace eE0 := Lib.hid eE0
          replace eT0 := Lib.hid eT0
          replace hb := Lib.hid hb
          replace hon := Lib.hid hon
          replace ex := Lib.hid ex
          replace tn := Lib.hid tn
          replace hs := Lib.hid hs
          replace cp := Lib.hid cp
          replace emx := Lib.hid emx
          replace hsP := Lib.hid hsP
          replace hsP' := Lib.hid hsP'
          replace cpx := Lib.hid cpx
          replace cpy := Lib.hid cpy
          replace hA := Lib.hid hA
          go_enter Tryd.func54, Tryd.ntmps54
          go_wp2_with fail
          refine cy.out.mono ?_
          rintro e _ ⟨rfl, rfl⟩
          go_wp2_with fail
          refine ci.out.mono ?_
          rintro e _ ⟨rfl, rfl⟩
          go_wp2_with (first
            | refine wpList_load_mid (by rfl) 57 (.tmp 24) rfl c (1 + k * 4) rfl (tenV x) _ tn.out Tryd.underlying57 rfl (infoQTen x) ?_
            | (refine wpList_store_ten (by rfl) (.tmp 9) (.tmp 25) rfl x rfl rfl rfl ?_; intro w2 R2 B2; obtain ⟨y0, y1, y2, y3⟩ := ten_cell R2.out; have h2 := h.out.below B2.out; replace h2 := Lib.hid h2)
            | (refine wpList_store_ten (by rfl) (.tmp 10) (.tmp 34) rfl ⟨true, rn, qn, x.c⟩ rfl rfl rfl ?_; intro w3 R3 B3))
          have X := (B3.out.block _ (lt_of_block R2.out)).trans R2.out
          have Y := R3.out
          have h3' := (h2.out.below B3.out).drew
          have B4 := ((B2.out.trans (B3.out.mono B2.out.size))).drew
          have hss := hs.out _ h3'
          clear y0 y1 y2 y3 R2 R3 B2 B3
          replace h3' := Lib.hid h3'
          replace B4 := Lib.hid B4
          replace hss := Lib.hid hss
          refine wp_region_held_drew (S := (fun w' => w'.heap[w.heap.size]? = some (.cells (tenV x).toArray 57 (0, 0)) ∧ w'.heap[w2.heap.size]? = some (.cells (tenV ⟨true, rn, qn, x.c⟩).toArray 57 (0, 0)))) (by kernel_rfl) (⟨X, Y⟩) (fun hHeld => ?_)
          refine held_take (i := 0) (v := ?_) rfl (by kernel_rfl) (by kernel_rfl) (by kernel_rfl) (fun _ _ _ h => h) (Or.inl ⟨by rfl, ?_⟩) (by assumption) ?_
          rotate_left
          · intro w hSw; (try dsimp only at hSw); go_simp; try with_reducible rfl
          try simp only [Act.put, List.setIfInBounds_toArray, List.set_cons_zero, List.set_cons_succ]
          refine held_take (i := 2) (v := _) rfl (by kernel_rfl) (by kernel_rfl) (by kernel_rfl) (fun _ _ _ h => h) (yieldsIf_ten (by rfl) rfl rfl x (fun w' h => h.1)) (by assumption) ?_
          try simp only [Act.put, List.setIfInBounds_toArray, List.set_cons_zero, List.set_cons_succ]
          refine held_take (i := 5) (v := _) rfl (by kernel_rfl) (by kernel_rfl) (by kernel_rfl) (fun _ _ _ h => h) (yieldsIf_ten (by rfl) rfl rfl ⟨true, rn, qn, x.c⟩ (fun w' h => h.2)) (by assumption) ?_
          try simp only [Act.put, List.setIfInBounds_toArray, List.set_cons_zero, List.set_cons_succ]
          refine held_ready (i := 1) rfl (by kernel_rfl) (fun K hK => ?_)
          go_simp
          refine hss.out.mono ?_
          rintro e w4 ⟨rfl, C4⟩
          replace X := (C4.block _ (lt_of_block X)).trans X
          replace Y := (C4.block _ (lt_of_block Y)).trans Y
          have h4 := h3'.out.below C4
          have B5 := B4.out.trans (C4.mono B4.out.size)
          clear C4 h3' B4
          replace h4 := Lib.hid h4
          replace B5 := Lib.hid B5
          refine hK.out _ _ (⟨X, Y⟩) (fun hHeldN => ?_)
          clear hHeld hK K
          have hHeld := hHeldN
          clear hHeldN
          try simp only [Act.put, List.setIfInBounds_toArray, List.set_cons_zero, List.set_cons_succ]
          refine held_ready (i := 3) rfl (by kernel_rfl) (fun K hK => ?_)
          go_simp
          refine (cpx.out _).mono ?_
          rintro e w5 ⟨rfl, C5⟩
          replace X := (C5.block _ (lt_of_block X)).trans X
          replace Y := (C5.block _ (lt_of_block Y)).trans Y
          have h5 := h4.out.below C5
          have B6 := B5.out.trans (C5.mono B5.out.size)
          clear C5 h4 B5
          replace h5 := Lib.hid h5
          replace B6 := Lib.hid B6
          refine hK.out _ _ (⟨X, Y⟩) (fun hHeldN => ?_)
          clear hHeld hK K
          have hHeld := hHeldN
          clear hHeldN
          try simp only [Act.put, List.setIfInBounds_toArray, List.set_cons_zero, List.set_cons_succ]
          refine held_take (i := 4) (v := ?_) rfl (by kernel_rfl) (by kernel_rfl) (by kernel_rfl) (fun _ _ _ h => h) (Or.inl ⟨by rfl, ?_⟩) (by assumption) ?_
          rotate_left
          · intro w hSw; (try dsimp only at hSw); go_simp; try with_reducible rfl
          try simp only [Act.put, List.setIfInBounds_toArray, List.set_cons_zero, List.set_cons_succ]
          refine held_ready (i := 6) rfl (by kernel_rfl) (fun K hK => ?_)
          go_simp
          refine (cpy.out _).mono ?_
          rintro e w6 ⟨rfl, C6⟩
          replace X := (C6.block _ (lt_of_block X)).trans X
          replace Y := (C6.block _ (lt_of_block Y)).trans Y
          have h6 := h5.out.below C6
          have B7 := B6.out.trans (C6.mono B6.out.size)
          clear C6 h5 B6
          replace h6 := Lib.hid h6
          replace B7 := Lib.hid B7
          refine hK.out _ _ (⟨X, Y⟩) (fun hHeldN => ?_)
          clear hHeld hK K
          have hHeld := hHeldN
          clear hHeldN
          try simp only [Act.put, List.setIfInBounds_toArray, List.set_cons_zero, List.set_cons_succ]
          refine held_take (i := 7) (v := ?_) rfl (by kernel_rfl) (by kernel_rfl) (by kernel_rfl) (fun _ _ _ h => h) (Or.inl ⟨by rfl, ?_⟩) (by assumption) ?_
          rotate_left
          · intro w hSw; (try dsimp only at hSw); go_simp; try with_reducible rfl
          try simp only [Act.put, List.setIfInBounds_toArray, List.set_cons_zero, List.set_cons_succ]
          refine wpAnyH_done (by kernel_rfl) ?_ _
          clear hHeld
          go_wp2_with fail
          have hf := QF.all (b := c) h6.out.f k9 ⟨true, rn, qn, x.c⟩
          have u0 := h6.out.on k9
          have u1 := h6.out.r k9
          have u2 := h6.out.q k9
          have u3 := h6.out.chg k9
          have z0 := h6.out.frozen (1 + k * 4)
          have z1 := h6.out.frozen (1 + k * 4 + 1)
          have z2 := h6.out.frozen (1 + k * 4 + 2)
          have z3 := h6.out.frozen (1 + k * 4 + 3)
          have hU := upd_cells (b := c) (tenV ⟨true, rn, qn, x.c⟩) (1 + k * 4) w6
          have hF := (h6.out.turn hf (hU.at h6.out.ints h6.out.ne.symm) hga.out).drew
          have hV := ((two_below (cl := cl) (c := c) B7.out).trans (two_c (cl := cl) hU) (fun _ _ h => h)).drew
          have Y' := (hU.block w2.heap.size (lt_of_block Y) (fun e => by have := lt_of_block h2.out.f; omega)).trans Y
          replace hf := Lib.hid hf
          replace hU := Lib.hid hU
          replace hF := Lib.hid hF
          replace hV := Lib.hid hV
          refine wp_region_held_drew (S := (fun w' => w'.heap[w2.heap.size]? = some (.cells (tenV ⟨true, rn, qn, x.c⟩).toArray 57 (0, 0)))) (by kernel_rfl) (Y) (fun hHeld => ?_)
          refine held_take (i := 0) (v := ?_) rfl (by kernel_rfl) (by kernel_rfl) (by kernel_rfl) (fun _ _ _ h => h) (Or.inl ⟨by rfl, ?_⟩) (by assumption) ?_
          rotate_left
          · intro w hSw; (try dsimp only at hSw); go_simp; try with_reducible rfl
          try simp only [Act.put, List.setIfInBounds_toArray, List.set_cons_zero, List.set_cons_succ]
          refine held_take (i := 1) (v := ?_) rfl (by kernel_rfl) (by kernel_rfl) (by kernel_rfl) (fun _ _ _ h => h) (Or.inl ⟨by rfl, ?_⟩) (by assumption) ?_
          rotate_left
          · intro w hSw; (try dsimp only at hSw); go_simp; try with_reducible rfl
          try simp only [Act.put, List.setIfInBounds_toArray, List.set_cons_zero, List.set_cons_succ]
          refine held_take (i := 2) (v := _) rfl (by kernel_rfl) (by kernel_rfl) (by kernel_rfl) (fun _ _ _ h => h) (yieldsIf_ten (by rfl) rfl rfl ⟨true, rn, qn, x.c⟩ (fun w' h => h)) (by assumption) ?_
          try simp only [Act.put, List.setIfInBounds_toArray, List.set_cons_zero, List.set_cons_succ]
          refine held_take (i := 3) (v := ?_) rfl (by kernel_rfl) (by kernel_rfl) (by kernel_rfl) (fun _ _ _ h => h) (Or.inl ⟨by rfl, ?_⟩) (by assumption) ?_
          rotate_left
          · intro w hSw; (try dsimp only at hSw); go_simp; try with_reducible rfl
          try simp only [Act.put, List.setIfInBounds_toArray, List.set_cons_zero, List.set_cons_succ]
          refine held_take (i := 4) (v := ?_) rfl (by kernel_rfl) (by kernel_rfl) (by kernel_rfl) (fun _ _ _ h => h) (Or.inl ⟨by rfl, ?_⟩) (by assumption) ?_
          rotate_left
          · intro w hSw; (try dsimp only at hSw); go_simp; try with_reducible rfl
          try simp only [Act.put, List.setIfInBounds_toArray, List.set_cons_zero, List.set_cons_succ]
          refine held_take (i := 5) (v := ?_) rfl (by kernel_rfl) (by kernel_rfl) (by kernel_rfl) (fun _ _ _ h => h) (Or.inl ⟨by rfl, ?_⟩) (by assumption) ?_
          rotate_left
          · intro w hSw; (try dsimp only at hSw); go_simp; try with_reducible rfl
          try simp only [Act.put, List.setIfInBounds_toArray, List.set_cons_zero, List.set_cons_succ]
          refine held_ready (i := 6) rfl (by kernel_rfl) (fun K hK => ?_)
          go_simp
          refine hK.out _ _ (Y') (fun hHeldN => ?_)
          clear hHeld hK K
          have hHeld := hHeldN
          clear hHeldN
          try simp only [Act.put]
          refine wpAnyH_done (by kernel_rfl) ?_ _
          clear hHeld
          go_wp2_with fail
          go_ret
          exact ⟨rfl, hF.out, hV.out⟩
end
end Go.Proofs.YtjhfoddhpmmjoaaDoor
