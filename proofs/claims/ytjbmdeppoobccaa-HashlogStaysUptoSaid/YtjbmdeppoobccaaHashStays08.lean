/-
  Law HashlogStays: what was summed stays; a text that comes again adds nothing. Condition: the texts are not too long.
-/
import Derived.Test.YtjbmdeppoobccaaHashApart08
namespace Go.Proofs.Ytjbmdeppoobccaa
open Go.RowKit Go.Maps

/-- Two logs at work. -/
structure TwoLogs (w wr : World) (Fx Fy : Nat → Prop) (bx by' : Nat) (Tx Ty : List (List Nat)) : Prop where
  x : LogW w wr Fx bx Tx
  y : LogW w wr Fy by' Ty
  dis : ∀ k, Fx k → ¬ Fy k
theorem TwoLogs.below {w wr w' : World} {Fx Fy : Nat → Prop} {bx by' : Nat} {Tx Ty : List (List Nat)} (h : TwoLogs w wr Fx Fy bx by' Tx Ty) (hB : Below wr.heap.size wr w') : TwoLogs w w' Fx Fy bx by' Tx Ty := ⟨h.x.below hB, h.y.below hB, h.dis⟩
theorem TwoLogs.sumX {w wr w' : World} {Fx Fy F' : Nat → Prop} {bx by' : Nat} {Tx Ty T' : List (List Nat)} (h : TwoLogs w wr Fx Fy bx by' Tx Ty) (h1 : LogAt w' F' bx T') (h2 : ∀ k, F' k → (Fx k ∨ wr.heap.size ≤ k) ∧ k < w'.heap.size) (h3 : Upd Fx wr w') : TwoLogs w w' F' Fy bx by' T' Ty := by
  refine ⟨h.x.sum h1 h2 h3, ⟨h.y.log.upd h3 (fun k hy hx => h.dis k hx hy), fun k hk => ⟨(h.y.inF k hk).1, Nat.lt_of_lt_of_le (h.y.inF k hk).2 h3.size⟩, (h.x.sum h1 h2 h3).low⟩, fun k hk hy => ?_⟩
  rcases (h2 k hk).1 with h4 | h4
  · exact h.dis k h4 hy
  · have := (h.y.inF k hy).2; omega
theorem TwoLogs.sumY {w wr w' : World} {Fx Fy F' : Nat → Prop} {bx by' : Nat} {Tx Ty T' : List (List Nat)} (h : TwoLogs w wr Fx Fy bx by' Tx Ty) (h1 : LogAt w' F' by' T') (h2 : ∀ k, F' k → (Fy k ∨ wr.heap.size ≤ k) ∧ k < w'.heap.size) (h3 : Upd Fy wr w') : TwoLogs w w' Fx F' bx by' Tx T' := by
  refine ⟨⟨h.x.log.upd h3 (fun k hx hy => h.dis k hx hy), fun k hk => ⟨(h.x.inF k hk).1, Nat.lt_of_lt_of_le (h.x.inF k hk).2 h3.size⟩, (h.y.sum h1 h2 h3).low⟩, h.y.sum h1 h2 h3, fun k hx hk => ?_⟩
  rcases (h2 k hk).1 with h4 | h4
  · exact h.dis k hx h4
  · have := (h.x.inF k hx).2; omega

/-- What stays while a round asks. -/
structure StaySt (w : World) (g ob oo k j : Nat) (vt vu : Value) (t u : List Nat) : Prop where
  s : RowB w g 27 (sumOf t)
  ck : w.cell? ⟨ob, oo + k, none⟩ = some vt
  cj : w.cell? ⟨ob, oo + j, none⟩ = some vu
  tt : TextAt w vt t
  tu : TextAt w vu u
theorem StaySt.upd {w w' : World} {g ob oo k j : Nat} {vt vu : Value} {t u : List Nat} {F : Nat → Prop} {B : Nat} (h : StaySt w g ob oo k j vt vu t u) (hU : Upd F w w') (hg : ¬ F g) (hL : ∀ i, F i → B ≤ i) (hB : B ≤ w.heap.size) (w0 : World) (hw0 : Below w0.heap.size w0 w) (hB0 : w0.heap.size = B)
    (c1 : w0.cell? ⟨ob, oo + k, none⟩ = some vt) (c2 : w0.cell? ⟨ob, oo + j, none⟩ = some vu) (t1 : TextAt w0 vt t) (t2 : TextAt w0 vu u) : StaySt w' g ob oo k j vt vu t u := by
  have low : Below w0.heap.size w0 w' := hw0.trans (hU.below (fun i hi hF => by have := hL i hF; omega) (by omega))
  exact ⟨h.s.other (hU.block _ h.s.lt hg), (low.cell (block_lt_of_cell c1)).trans c1, (low.cell (block_lt_of_cell c2)).trans c2, t1.below low, t2.below low⟩

set_option maxRecDepth 100000 in
set_option maxHeartbeats 4000000 in
theorem hashlogStays_any (w : World) (ao : Option Addr) (cap : Nat) (ls : List (List Nat)) (hc : ls.length ≤ cap) (h : TextsAt w ao ls) (hls : ls.length < 9223372036854775808) (hall : ∀ j, (ls.getD j []).length < 1000000000) :
    Calls Try.prog 15 #[.slice ao ls.length cap] w fun e w' => e = .returned (.bool true) ∧ Below w.heap.size w w' := by
  obtain ⟨n, en⟩ : ∃ n, n = ls.length := ⟨_, rfl⟩
  rw [← en] at hc hls ⊢
  have al := Lib.hid (fun x => alive08 x)
  replace h := Lib.hid h
  replace en := Lib.hid en
  replace hall := Lib.hid hall
  by_cases g : 40 < n
  · have d : decide ((n : Int) > 40) = true := decide_eq_true (by omega)
    go_enter Try.func15, Try.ntmps15
    go_wp2_with fail
    refine (al.out w).mono ?_
    rintro e w2 ⟨rfl, B2⟩
    go_wp2_with fail
    go_ret
    exact ⟨rfl, B2⟩
  · have d : decide ((n : Int) > 40) = false := decide_eq_false (by omega)
    go_enter Try.func15, Try.ntmps15
    go_wp2_with fail
    refine (lnew_any w).mono ?_
    rintro e w1 ⟨bx, rfl, l1, B1⟩
    have L1 : LogW w w1 (fun k => w.heap.size ≤ k ∧ k < w1.heap.size) bx (keepTo ls 0) := ⟨l1.tight, fun k hk => hk, B1⟩
    clear l1 B1
    replace L1 := Lib.hid L1
    go_wp2_with fail
    refine (lnew_any w1).mono ?_
    rintro e w2 ⟨b2, rfl, l2, B2⟩
    have T0 : TwoLogs w w2 (fun k => w.heap.size ≤ k ∧ k < w1.heap.size) (fun k => w1.heap.size ≤ k ∧ k < w2.heap.size) bx b2 (keepTo ls 0) (kepTo ls 0) := by
      have h1 := L1.out.below B2
      exact ⟨h1, ⟨l2.tight, fun k hk => ⟨Nat.le_trans L1.out.low.size hk.1, hk.2⟩, h1.low⟩, fun k hx hy => by omega⟩
    clear l2 B2 L1
    replace T0 := Lib.hid T0
    go_wp2_with fail
    go_loopw [5] (fun i wr => ∃ (k : Nat) (Fx Fy : Nat → Prop), k ≤ n ∧ i = .int .i64 k ∧ TwoLogs w wr Fx Fy bx b2 (keepTo ls k) (kepTo ls k) ∧ ∀ j, j < k → (ls.getD j []).length ≤ 300) (fun i _ => n - (intOf i).toNat)
    case atStart => exact ⟨0, _, _, Nat.zero_le _, rfl, T0.out, fun j hj => by omega⟩
    case round =>
      obtain ⟨k, Fx, Fy, hk, rfl, hL, hs⟩ := hrel
      clear T0
      by_cases hlt : k < n
      · obtain ⟨ob, oo, ai, ci, rfl, c1, t1⟩ := h.out.at (k := k) (by rw [← en.out]; exact hlt)
        obtain ⟨j, ej⟩ : ∃ j, j = n - 1 - k := ⟨_, rfl⟩
        obtain ⟨ob', oo', aj, cj, e', c2, t2⟩ := h.out.at (k := j) (by rw [← en.out]; omega)
        cases e'
        have c1' := (hL.x.low.cell (block_lt_of_cell c1)).trans c1
        have t1' := t1.below hL.x.low
        have lk := length_keep ls k
        have lk2 := length_kep ls k
        have hu9 := hall.out j
        obtain ⟨t, et⟩ : ∃ t, t = ls.getD k [] := ⟨_, rfl⟩
        obtain ⟨u, eu⟩ : ∃ u, u = ls.getD j [] := ⟨_, rfl⟩
        rw [← et] at c1 c1' t1 t1'
        rw [← eu] at c2 t2 hu9
        obtain ⟨m, em⟩ : ∃ m, m = t.length := ⟨_, rfl⟩
        obtain ⟨mu, emu⟩ : ∃ m, m = u.length := ⟨_, rfl⟩
        rw [← em] at c1 c1' t1 t1'
        rw [← emu] at c2 t2
        by_cases g3 : 300 < m
        · have d3 : decide ((m : Int) > 300) = true := decide_eq_true (by omega)
          replace hL := Lib.hid hL
          replace hs := Lib.hid hs
          replace t1 := Lib.hid t1
          replace t1' := Lib.hid t1'
          replace et := Lib.hid et
          replace em := Lib.hid em
          replace c1 := Lib.hid c1
          replace lk := Lib.hid lk
          replace c2 := Lib.hid c2
          replace t2 := Lib.hid t2
          replace eu := Lib.hid eu
          replace emu := Lib.hid emu
          replace hu9 := Lib.hid hu9
          replace lk2 := Lib.hid lk2
          replace ej := Lib.hid ej
          go_wp2_with fail
          refine (al.out _).mono ?_
          rintro e w2 ⟨rfl, B2⟩
          have low2 := hL.out.x.low.trans (B2.mono hL.out.x.low.size)
          replace low2 := Lib.hid low2
          replace B2 := Lib.hid B2
          go_wp2_with fail
          go_ret
          exact ⟨rfl, low2.out⟩
        · have d3 : decide ((m : Int) > 300) = false := decide_eq_false (by omega)
          have hs' : ∀ i, i < k + 1 → (ls.getD i []).length ≤ 300 := fun i hi => by
            by_cases e : i = k
            · subst e; rw [← et]; omega
            · exact hs i (by omega)
          have ekeep : keepTo ls (k + 1) = addT (keepTo ls k) t := by rw [et]; rfl
          have ekep : kepTo ls (k + 1) = addT (kepTo ls k) u := by rw [eu, ej, en.out]; rfl
          obtain ⟨Tx, eTx⟩ : ∃ Tx, Tx = keepTo ls k := ⟨_, rfl⟩
          obtain ⟨Ty, eTy⟩ : ∃ Ty, Ty = kepTo ls k := ⟨_, rfl⟩
          rw [← eTx] at hL lk ekeep
          rw [← eTy] at hL lk2 ekep
          have cc := Lib.hid (lcount_any hL.x.log)
          have ch := Lib.hid (lhas_st hL.x.log _ t t1' (by omega) (by omega))
          have is := infoSum t
          have zs := zeroSum t
          replace hL := Lib.hid hL
          replace hs := Lib.hid hs
          replace hs' := Lib.hid hs'
          replace t1 := Lib.hid t1
          replace t1' := Lib.hid t1'
          replace et := Lib.hid et
          replace em := Lib.hid em
          replace c1 := Lib.hid c1
          replace lk := Lib.hid lk
          replace c2 := Lib.hid c2
          replace t2 := Lib.hid t2
          replace eu := Lib.hid eu
          replace emu := Lib.hid emu
          replace hu9 := Lib.hid hu9
          replace lk2 := Lib.hid lk2
          replace ej := Lib.hid ej
          replace ekeep := Lib.hid ekeep
          replace ekep := Lib.hid ekep
          replace eTx := Lib.hid eTx
          replace eTy := Lib.hid eTy
          go_wp2_with fail
          refine cc.out.mono ?_
          rintro e w2 ⟨rfl, rfl⟩
          clear cc
          go_wp2_with fail
          refine ch.out.mono ?_
          rintro e w3 ⟨rfl, B3⟩
          clear ch
          have L3 := hL.out.below B3
          have c13 := (B3.cell (block_lt_of_cell c1')).trans c1'
          have t13 := t1'.out.below B3
          have cs := Lib.hid (lsum_st L3.x.log _ t t13 (by rw [← em.out]; omega) (by have := lk.out; omega))
          replace L3 := Lib.hid L3
          replace t13 := Lib.hid t13
          replace B3 := Lib.hid B3
          go_wp2_with fail
          refine cs.out.mono ?_
          rintro e w4 ⟨rfl, F4, l4, f4, U4⟩
          have L4 := L3.out.sumX l4 f4 U4
          clear l4 f4 U4 cs L3
          replace L4 := Lib.hid L4
          go_wp2_with (refine wpList_store_n (by rfl) 27 (.tmp 8) (.tmp 42) rfl (sumOf t) rfl rfl is zs ?_; intro w5 R5 B5)
          have L5 := L4.out.below B5.out
          have lowx := L5.x.low
          have g5 : ∀ i, Fy i → ¬ i = w4.heap.size := fun i hi e => by have := (L4.out.y.inF i hi).2; omega
          have St5 : StaySt w5 w4.heap.size ob oo k j (.slice ai m ci) (.slice aj mu cj) t u := ⟨R5.out, (lowx.cell (block_lt_of_cell c1.out)).trans c1.out, (lowx.cell (block_lt_of_cell c2.out)).trans c2.out, t1.out.below lowx, t2.out.below lowx⟩
          have hsz : w.heap.size ≤ w4.heap.size := L4.out.x.low.size
          generalize w4.heap.size = g at *
          have cc := Lib.hid (lcount_any (L5.x.log.stay (w' := w5.drew) (fun _ _ _ => rfl)))
          have hne : decide (((addT Tx t).length : Int) = (Tx.length : Int)) = decide (t ∈ Tx) := by
            rw [decide_eq_decide, length_addT]
            by_cases hm : t ∈ Tx
            · rw [if_pos hm]; simp [hm]
            · rw [if_neg hm]; simp [hm]; omega
          have n1 : IntKind.i64.wrap ((n : Int) - 1) = (n : Int) - 1 := IntWalk.i64_in _ (by omega)
          have n2 : IntKind.i64.wrap ((n : Int) - 1 - (k : Int)) = (j : Int) := by rw [IntWalk.i64_in _ (by omega)]; have := ej.out; omega
          have kn : (k : Int) < (n : Int) := by omega
          have jn : (j : Int) < (n : Int) := by have := ej.out; omega
          have L5d : TwoLogs w w5.drew F4 Fy bx b2 (addT Tx t) Ty := L5.below (Below.refl _ _).drew
          have St5d : StaySt w5.drew g ob oo k j (.slice ai m ci) (.slice aj mu cj) t u := ⟨St5.s, St5.ck, St5.cj, St5.tt.drew, St5.tu.drew⟩
          clear L4 L5 lowx R5 B5 St5 hL B3 c13 t13 c1' t1'
          replace L5d := Lib.hid L5d
          replace St5d := Lib.hid St5d
          replace g5 := Lib.hid g5
          have gk : ∀ w', StaySt w' g ob oo k j (.slice ai m ci) (.slice aj mu cj) t u → w'.cell? ⟨ob, oo + k, none⟩ = some (.slice ai m ci) := fun w' h => h.ck
          have gj : ∀ w', StaySt w' g ob oo k j (.slice ai m ci) (.slice aj mu cj) t u → w'.cell? ⟨ob, oo + j, none⟩ = some (.slice aj mu cj) := fun w' h => h.cj
          have gs : ∀ w', StaySt w' g ob oo k j (.slice ai m ci) (.slice aj mu cj) t u → w'.heap[g]? = some (.cells (u8s (sumOf t)) 27 (0, 0)) := fun w' h => h.s
          have gt : ∀ w', StaySt w' g ob oo k j (.slice ai m ci) (.slice aj mu cj) t u → TextAt w' (.slice ai m ci) t := fun w' h => h.tt
          have gu : ∀ w', StaySt w' g ob oo k j (.slice ai m ci) (.slice aj mu cj) t u → TextAt w' (.slice aj mu cj) u := fun w' h => h.tu
          have stepY : ∀ (w6 w7 : World) (F7 : Nat → Prop), StaySt w6 g ob oo k j (.slice ai m ci) (.slice aj mu cj) t u → TwoLogs w w6 F4 Fy bx b2 (addT Tx t) Ty → LogAt w7 F7 b2 (addT Ty u) → (∀ i, F7 i → (Fy i ∨ w6.heap.size ≤ i) ∧ i < w7.heap.size) → Upd Fy w6 w7 →
              StaySt w7 g ob oo k j (.slice ai m ci) (.slice aj mu cj) t u ∧ TwoLogs w w7 F4 F7 bx b2 (addT Tx t) (addT Ty u) := fun w6 w7 F7 hS hL l7 f7 U7 =>
            ⟨hS.upd U7 (fun hF => g5.out g hF rfl) (fun i hi => (hL.y.inF i hi).1) hL.x.low.size w hL.x.low rfl c1.out c2.out t1.out t2.out, hL.sumY l7 f7 U7⟩
          replace gs := Lib.hid gs
          replace gt := Lib.hid gt
          replace gu := Lib.hid gu
          replace stepY := Lib.hid stepY
          have hu9' := hu9.out
          by_cases hm : t ∈ Tx
          · have hd : decide (t ∈ Tx) = true := decide_eq_true hm
            rw [hd]
            rw [show (addT Tx t).length = Tx.length from by rw [addT_in hm]] at cc
            clear hne hd hm
            by_cases hq : sumOf t = sumOf u
            · have q1 := fun (x : World) => run_equal_arr (P := Try.prog) Try.underlying27 Try.underlying5 (by kernel_rfl) (sumOf_lt t) (sumOf_lt u) (length_sumOf _) (length_sumOf _) x
              rw [show (sumOf t == sumOf u) = true from beq_iff_eq.2 hq] at q1
              replace hq := Lib.hid hq
              refine wp_region_held_drew (S := (fun w' => StaySt w' g ob oo k j (.slice ai m ci) (.slice aj mu cj) t u)) (by kernel_rfl) (St5d.out) (fun hHeld => ?_)
              refine held_take (i := 0) (v := ?_) rfl (by kernel_rfl) (by kernel_rfl) (by kernel_rfl) (fun _ _ _ h => h) (Or.inl ⟨by rfl, ?_⟩) (by assumption) ?_
              rotate_left
              · intro w hSw; (try dsimp only at hSw); go_simp; try with_reducible rfl
              try simp only [Act.put, List.setIfInBounds_toArray, List.set_cons_zero, List.set_cons_succ]
              refine held_take (i := 2) (v := ?_) rfl (by kernel_rfl) (by kernel_rfl) (by kernel_rfl) (fun _ _ _ h => h) (Or.inl ⟨by rfl, ?_⟩) (by assumption) ?_
              rotate_left
              · intro w hSw; (try dsimp only at hSw); go_simp; try with_reducible rfl
              try simp only [Act.put, List.setIfInBounds_toArray, List.set_cons_zero, List.set_cons_succ]
              refine held_take (i := 4) (v := ?_) rfl (by kernel_rfl) (by kernel_rfl) (by kernel_rfl) (fun _ _ _ h => h) (Or.inl ⟨by rfl, ?_⟩) (by assumption) ?_
              rotate_left
              · intro w hSw; (try dsimp only at hSw); go_simp; try with_reducible rfl
              try simp only [Act.put, List.setIfInBounds_toArray, List.set_cons_zero, List.set_cons_succ]
              refine held_ready (i := 1) rfl (by kernel_rfl) (fun K hK => ?_)
              go_simp
              refine cc.out.mono ?_; rintro e w6 ⟨rfl, rfl⟩
              refine hK.out _ _ (St5d.out) (fun hHeldN => ?_)
              clear hHeld hK K
              have hHeld := hHeldN
              clear hHeldN
              try simp only [Act.put, List.setIfInBounds_toArray, List.set_cons_zero, List.set_cons_succ]
              refine held_take (i := 3) (v := ?_) rfl (by kernel_rfl) (by kernel_rfl) (by kernel_rfl) (fun _ _ _ h => h) (Or.inl ⟨by rfl, ?_⟩) (by assumption) ?_
              rotate_left
              · intro w hSw; (try dsimp only at hSw); go_simp; try with_reducible rfl
              try simp only [Act.put, List.setIfInBounds_toArray, List.set_cons_zero, List.set_cons_succ]
              refine held_take (i := 5) (v := ?_) rfl (by kernel_rfl) (by kernel_rfl) (by kernel_rfl) (fun _ _ _ h => h) (Or.inl ⟨by rfl, ?_⟩) (by assumption) ?_
              rotate_left
              · intro w hSw; (try dsimp only at hSw); go_simp; try with_reducible rfl
              try simp only [Act.put, List.setIfInBounds_toArray, List.set_cons_zero, List.set_cons_succ]
              refine held_take (i := 6) (v := ?_) rfl (by kernel_rfl) (by kernel_rfl) (by kernel_rfl) (fun _ _ _ h => h) (Or.inl ⟨by rfl, ?_⟩) (by assumption) ?_
              rotate_left
              · intro w hSw; (try dsimp only at hSw); go_simp; try with_reducible rfl
              try simp only [Act.put, List.setIfInBounds_toArray, List.set_cons_zero, List.set_cons_succ]
              refine held_take (i := 7) (v := _) rfl (by kernel_rfl) (by kernel_rfl) (by kernel_rfl) (fun _ _ _ h => h) (yieldsIf_row (by rfl) rfl rfl Try.underlying27 is gs.out) (by assumption) ?_
              try simp only [Act.put, List.setIfInBounds_toArray, List.set_cons_zero, List.set_cons_succ]
              refine held_take (i := 8) (v := ?_) rfl (by kernel_rfl) (by kernel_rfl) (by kernel_rfl) (fun _ _ _ h => h) (Or.inl ⟨by rfl, ?_⟩) (by assumption) ?_
              rotate_left
              · intro w hSw; (try dsimp only at hSw); go_simp; try with_reducible rfl
              try simp only [Act.put, List.setIfInBounds_toArray, List.set_cons_zero, List.set_cons_succ]
              refine held_take (i := 9) (v := ?_) rfl (by kernel_rfl) (by kernel_rfl) (by kernel_rfl) (fun _ _ _ h => h) (Or.inl ⟨by rfl, ?_⟩) (by assumption) ?_
              rotate_left
              · intro w hSw; (try dsimp only at hSw); go_simp; try with_reducible rfl
              try simp only [Act.put, List.setIfInBounds_toArray, List.set_cons_zero, List.set_cons_succ]
              refine held_take (i := 10) (v := ?_) rfl (by kernel_rfl) (by kernel_rfl) (by kernel_rfl) (fun _ _ _ h => h) (Or.inl ⟨by rfl, ?_⟩) (by assumption) ?_
              rotate_left
              · intro w hSw; (try dsimp only at hSw); go_simp; try with_reducible rfl
              try simp only [Act.put, List.setIfInBounds_toArray, List.set_cons_zero, List.set_cons_succ]
              refine held_take (i := 11) (v := ?_) rfl (by kernel_rfl) (by kernel_rfl) (by kernel_rfl) (fun _ _ _ h => h) (Or.inl ⟨by rfl, ?_⟩) (by assumption) ?_
              rotate_left
              · intro w hSw; (try dsimp only at hSw); go_simp; try with_reducible rfl
              try simp only [Act.put, List.setIfInBounds_toArray, List.set_cons_zero, List.set_cons_succ]
              refine held_take (i := 12) (v := ?_) rfl (by kernel_rfl) (by kernel_rfl) (by kernel_rfl) (fun _ _ _ h => h) (Or.inl ⟨by rfl, ?_⟩) (by assumption) ?_
              rotate_left
              · intro w hSw; (try dsimp only at hSw); go_simp; try with_reducible rfl
              try simp only [Act.put, List.setIfInBounds_toArray, List.set_cons_zero, List.set_cons_succ]
              refine held_take (i := 13) (v := ?_) rfl (by kernel_rfl) (by kernel_rfl) (by kernel_rfl) (fun _ _ _ h => h) (Or.inl ⟨by rfl, ?_⟩) (by assumption) ?_
              rotate_left
              · intro w hSw; (try dsimp only at hSw); go_simp; try with_reducible rfl
              try simp only [Act.put, List.setIfInBounds_toArray, List.set_cons_zero, List.set_cons_succ]
              refine held_take (i := 14) (v := ?_) rfl (by kernel_rfl) (by kernel_rfl) (by kernel_rfl) (fun _ _ _ h => h) (Or.inl ⟨by rfl, ?_⟩) (by assumption) ?_
              rotate_left
              · intro w hSw; (try dsimp only at hSw); go_simp; try with_reducible rfl
              try simp only [Act.put, List.setIfInBounds_toArray, List.set_cons_zero, List.set_cons_succ]
              refine held_take (i := 15) (v := ?_) rfl (by kernel_rfl) (by kernel_rfl) (by kernel_rfl) (fun _ _ _ h => h) (Or.inl ⟨by rfl, ?_⟩) (by assumption) ?_
              rotate_left
              · intro w hSw; (try dsimp only at hSw); go_simp; try with_reducible rfl
              try simp only [Act.put, List.setIfInBounds_toArray, List.set_cons_zero, List.set_cons_succ]
              refine held_take (i := 16) (v := ?_) rfl (by kernel_rfl) (by kernel_rfl) (by kernel_rfl) (fun _ _ _ h => h) (Or.inl ⟨by rfl, ?_⟩) (by assumption) ?_
              rotate_left
              · intro w hSw; (try dsimp only at hSw); go_simp; try with_reducible rfl
              try simp only [Act.put, List.setIfInBounds_toArray, List.set_cons_zero, List.set_cons_succ]
              refine held_ready (i := 17) rfl (by kernel_rfl) (fun K hK => ?_)
              go_simp
              refine (lsum_st L5d.out.y.log _ u (gu.out _ St5d.out) hu9' (by have := lk2.out; omega)).mono ?_
              rintro e w7 ⟨rfl, F7, l7, f7, U7⟩
              obtain ⟨S7, L7⟩ := stepY.out _ _ _ St5d.out L5d.out l7 f7 U7
              clear l7 f7 U7
              replace S7 := Lib.hid S7
              refine hK.out _ _ (S7.out) (fun hHeldN => ?_)
              clear hHeld hK K
              have hHeld := hHeldN
              clear hHeldN
              try simp only [Act.put, List.setIfInBounds_toArray, List.set_cons_zero, List.set_cons_succ]
              refine held_take (i := 18) (v := ?_) rfl (by kernel_rfl) (by kernel_rfl) (by kernel_rfl) (fun _ _ _ h => h) (Or.inl ⟨by rfl, ?_⟩) (by assumption) ?_
              rotate_left
              · intro w hSw; (try dsimp only at hSw); go_simp; try with_reducible rfl
              try simp only [Act.put, List.setIfInBounds_toArray, List.set_cons_zero, List.set_cons_succ]
              refine held_take (i := 19) (v := ?_) rfl (by kernel_rfl) (by kernel_rfl) (by kernel_rfl) (fun _ _ _ h => h) (Or.inl ⟨by rfl, ?_⟩) (by assumption) ?_
              rotate_left
              · intro w hSw; (try dsimp only at hSw); go_simp; try with_reducible rfl
              try simp only [Act.put, List.setIfInBounds_toArray, List.set_cons_zero, List.set_cons_succ]
              refine held_take (i := 20) (v := _) rfl (by kernel_rfl) (by kernel_rfl) (by kernel_rfl) (fun _ _ _ h => h) (Or.inr ⟨by rfl, rfl⟩) (by assumption) ?_
              try simp only [Act.put, List.setIfInBounds_toArray, List.set_cons_zero, List.set_cons_succ]
              refine held_take (i := 21) (v := _) rfl (by kernel_rfl) (by kernel_rfl) (by kernel_rfl) (fun _ _ _ h => h) (Or.inr ⟨by rfl, rfl⟩) (by assumption) ?_
              try simp only [Act.put, List.setIfInBounds_toArray, List.set_cons_zero, List.set_cons_succ]
              refine held_take (i := 22) (v := _) rfl (by kernel_rfl) (by kernel_rfl) (by kernel_rfl) (fun _ _ _ h => h) (Or.inr ⟨by rfl, rfl⟩) (by assumption) ?_
              try simp only [Act.put, List.setIfInBounds_toArray, List.set_cons_zero, List.set_cons_succ]
              refine held_take (i := 23) (v := _) rfl (by kernel_rfl) (by kernel_rfl) (by kernel_rfl) (fun _ _ _ h => h) (Or.inr ⟨by rfl, rfl⟩) (by assumption) ?_
              try simp only [Act.put, List.setIfInBounds_toArray, List.set_cons_zero, List.set_cons_succ]
              refine held_take (i := 24) (v := _) rfl (by kernel_rfl) (by kernel_rfl) (by kernel_rfl) (fun _ _ _ h => h) (Or.inr ⟨by rfl, rfl⟩) (by assumption) ?_
              try simp only [Act.put, List.setIfInBounds_toArray, List.set_cons_zero, List.set_cons_succ]
              refine held_take (i := 25) (v := _) rfl (by kernel_rfl) (by kernel_rfl) (by kernel_rfl) (fun _ _ _ h => h) (Or.inr ⟨by rfl, rfl⟩) (by assumption) ?_
              try simp only [Act.put, List.setIfInBounds_toArray, List.set_cons_zero, List.set_cons_succ]
              refine held_take (i := 26) (v := _) rfl (by kernel_rfl) (by kernel_rfl) (by kernel_rfl) (fun _ _ _ h => h) (Or.inr ⟨by rfl, rfl⟩) (by assumption) ?_
              try simp only [Act.put, List.setIfInBounds_toArray, List.set_cons_zero, List.set_cons_succ]
              refine held_take (i := 27) (v := _) rfl (by kernel_rfl) (by kernel_rfl) (by kernel_rfl) (fun _ _ _ h => h) (Or.inr ⟨by rfl, rfl⟩) (by assumption) ?_
              try simp only [Act.put, List.setIfInBounds_toArray, List.set_cons_zero, List.set_cons_succ]
              refine held_take (i := 28) (v := _) rfl (by kernel_rfl) (by kernel_rfl) (by kernel_rfl) (fun _ _ _ h => h) (Or.inr ⟨by rfl, rfl⟩) (by assumption) ?_
              try simp only [Act.put, List.setIfInBounds_toArray, List.set_cons_zero, List.set_cons_succ]
              refine held_take (i := 29) (v := _) rfl (by kernel_rfl) (by kernel_rfl) (by kernel_rfl) (fun _ _ _ h => h) (Or.inr ⟨by rfl, rfl⟩) (by assumption) ?_
              try simp only [Act.put, List.setIfInBounds_toArray, List.set_cons_zero, List.set_cons_succ]
              refine held_take (i := 30) (v := _) rfl (by kernel_rfl) (by kernel_rfl) (by kernel_rfl) (fun _ _ _ h => h) (Or.inr ⟨by rfl, rfl⟩) (by assumption) ?_
              try simp only [Act.put, List.setIfInBounds_toArray, List.set_cons_zero, List.set_cons_succ]
              refine held_take (i := 31) (v := _) rfl (by kernel_rfl) (by kernel_rfl) (by kernel_rfl) (fun _ _ _ h => h) (Or.inr ⟨by rfl, rfl⟩) (by assumption) ?_
              try simp only [Act.put, List.setIfInBounds_toArray, List.set_cons_zero, List.set_cons_succ]
              refine held_take (i := 32) (v := _) rfl (by kernel_rfl) (by kernel_rfl) (by kernel_rfl) (fun _ _ _ h => h) (Or.inr ⟨by rfl, rfl⟩) (by assumption) ?_
              try simp only [Act.put, List.setIfInBounds_toArray, List.set_cons_zero, List.set_cons_succ]
              refine held_take (i := 33) (v := _) rfl (by kernel_rfl) (by kernel_rfl) (by kernel_rfl) (fun _ _ _ h => h) (Or.inr ⟨by rfl, rfl⟩) (by assumption) ?_
              try simp only [Act.put, List.setIfInBounds_toArray, List.set_cons_zero, List.set_cons_succ]
              refine held_take (i := 34) (v := _) rfl (by kernel_rfl) (by kernel_rfl) (by kernel_rfl) (fun _ _ _ h => h) (Or.inr ⟨by rfl, rfl⟩) (by assumption) ?_
              try simp only [Act.put, List.setIfInBounds_toArray, List.set_cons_zero, List.set_cons_succ]
              refine held_take (i := 35) (v := ?_) rfl (by kernel_rfl) (by kernel_rfl) (by kernel_rfl) (fun _ _ _ h => h) (Or.inl ⟨by rfl, ?_⟩) (by assumption) ?_
              rotate_left
              · intro w hSw; (try dsimp only at hSw); go_simp; try with_reducible rfl
              try simp only [Act.put, List.setIfInBounds_toArray, List.set_cons_zero, List.set_cons_succ]
              refine held_take (i := 36) (v := ?_) rfl (by kernel_rfl) (by kernel_rfl) (by kernel_rfl) (fun _ _ _ h => h) (Or.inl ⟨by rfl, ?_⟩) (by assumption) ?_
              rotate_left
              · intro w hSw; (try dsimp only at hSw); go_simp; try with_reducible rfl
              try simp only [Act.put, List.setIfInBounds_toArray, List.set_cons_zero, List.set_cons_succ]
              refine wpAnyH_done (by kernel_rfl) ?_ _
              clear hHeld
              rw [← ekeep.out, ← ekep.out] at L7
              replace L7 := Lib.hid L7
              go_wp2_with fail
              go_roundw
              case rel => exact ⟨k + 1, F4, F7, by omega, by go_num, L7.out, hs'.out⟩
              case measure => simp [intOf]; omega
            · have q1 := fun (x : World) => run_equal_arr (P := Try.prog) Try.underlying27 Try.underlying5 (by kernel_rfl) (sumOf_lt t) (sumOf_lt u) (length_sumOf _) (length_sumOf _) x
              rw [show (sumOf t == sumOf u) = false from beq_eq_false_iff_ne.2 hq] at q1
              have htu : (t == u) = false := beq_eq_false_iff_ne.2 (fun e => hq (by rw [e]))
              have sd := str_dec t1.out.small t2.out.small
              have sl := str_lst t1.out.small t2.out.small
              rw [htu] at sd sl
              have np : ¬ strOf t = strOf u := of_decide_eq_false sd
              replace hq := Lib.hid hq
              replace htu := Lib.hid htu
              refine wp_region_held_drew (S := (fun w' => StaySt w' g ob oo k j (.slice ai m ci) (.slice aj mu cj) t u)) (by kernel_rfl) (St5d.out) (fun hHeld => ?_)
              refine held_take (i := 0) (v := ?_) rfl (by kernel_rfl) (by kernel_rfl) (by kernel_rfl) (fun _ _ _ h => h) (Or.inl ⟨by rfl, ?_⟩) (by assumption) ?_
              rotate_left
              · intro w hSw; (try dsimp only at hSw); go_simp; try with_reducible rfl
              try simp only [Act.put, List.setIfInBounds_toArray, List.set_cons_zero, List.set_cons_succ]
              refine held_take (i := 2) (v := ?_) rfl (by kernel_rfl) (by kernel_rfl) (by kernel_rfl) (fun _ _ _ h => h) (Or.inl ⟨by rfl, ?_⟩) (by assumption) ?_
              rotate_left
              · intro w hSw; (try dsimp only at hSw); go_simp; try with_reducible rfl
              try simp only [Act.put, List.setIfInBounds_toArray, List.set_cons_zero, List.set_cons_succ]
              refine held_take (i := 4) (v := ?_) rfl (by kernel_rfl) (by kernel_rfl) (by kernel_rfl) (fun _ _ _ h => h) (Or.inl ⟨by rfl, ?_⟩) (by assumption) ?_
              rotate_left
              · intro w hSw; (try dsimp only at hSw); go_simp; try with_reducible rfl
              try simp only [Act.put, List.setIfInBounds_toArray, List.set_cons_zero, List.set_cons_succ]
              refine held_ready (i := 1) rfl (by kernel_rfl) (fun K hK => ?_)
              go_simp
              refine cc.out.mono ?_; rintro e w6 ⟨rfl, rfl⟩
              refine hK.out _ _ (St5d.out) (fun hHeldN => ?_)
              clear hHeld hK K
              have hHeld := hHeldN
              clear hHeldN
              try simp only [Act.put, List.setIfInBounds_toArray, List.set_cons_zero, List.set_cons_succ]
              refine held_take (i := 3) (v := ?_) rfl (by kernel_rfl) (by kernel_rfl) (by kernel_rfl) (fun _ _ _ h => h) (Or.inl ⟨by rfl, ?_⟩) (by assumption) ?_
              rotate_left
              · intro w hSw; (try dsimp only at hSw); go_simp; try with_reducible rfl
              try simp only [Act.put, List.setIfInBounds_toArray, List.set_cons_zero, List.set_cons_succ]
              refine held_take (i := 5) (v := ?_) rfl (by kernel_rfl) (by kernel_rfl) (by kernel_rfl) (fun _ _ _ h => h) (Or.inl ⟨by rfl, ?_⟩) (by assumption) ?_
              rotate_left
              · intro w hSw; (try dsimp only at hSw); go_simp; try with_reducible rfl
              try simp only [Act.put, List.setIfInBounds_toArray, List.set_cons_zero, List.set_cons_succ]
              refine held_take (i := 6) (v := ?_) rfl (by kernel_rfl) (by kernel_rfl) (by kernel_rfl) (fun _ _ _ h => h) (Or.inl ⟨by rfl, ?_⟩) (by assumption) ?_
              rotate_left
              · intro w hSw; (try dsimp only at hSw); go_simp; try with_reducible rfl
              try simp only [Act.put, List.setIfInBounds_toArray, List.set_cons_zero, List.set_cons_succ]
              refine held_take (i := 7) (v := _) rfl (by kernel_rfl) (by kernel_rfl) (by kernel_rfl) (fun _ _ _ h => h) (yieldsIf_row (by rfl) rfl rfl Try.underlying27 is gs.out) (by assumption) ?_
              try simp only [Act.put, List.setIfInBounds_toArray, List.set_cons_zero, List.set_cons_succ]
              refine held_take (i := 8) (v := ?_) rfl (by kernel_rfl) (by kernel_rfl) (by kernel_rfl) (fun _ _ _ h => h) (Or.inl ⟨by rfl, ?_⟩) (by assumption) ?_
              rotate_left
              · intro w hSw; (try dsimp only at hSw); go_simp; try with_reducible rfl
              try simp only [Act.put, List.setIfInBounds_toArray, List.set_cons_zero, List.set_cons_succ]
              refine held_take (i := 9) (v := ?_) rfl (by kernel_rfl) (by kernel_rfl) (by kernel_rfl) (fun _ _ _ h => h) (Or.inl ⟨by rfl, ?_⟩) (by assumption) ?_
              rotate_left
              · intro w hSw; (try dsimp only at hSw); go_simp; try with_reducible rfl
              try simp only [Act.put, List.setIfInBounds_toArray, List.set_cons_zero, List.set_cons_succ]
              refine held_take (i := 10) (v := ?_) rfl (by kernel_rfl) (by kernel_rfl) (by kernel_rfl) (fun _ _ _ h => h) (Or.inl ⟨by rfl, ?_⟩) (by assumption) ?_
              rotate_left
              · intro w hSw; (try dsimp only at hSw); go_simp; try with_reducible rfl
              try simp only [Act.put, List.setIfInBounds_toArray, List.set_cons_zero, List.set_cons_succ]
              refine held_take (i := 11) (v := ?_) rfl (by kernel_rfl) (by kernel_rfl) (by kernel_rfl) (fun _ _ _ h => h) (Or.inl ⟨by rfl, ?_⟩) (by assumption) ?_
              rotate_left
              · intro w hSw; (try dsimp only at hSw); go_simp; try with_reducible rfl
              try simp only [Act.put, List.setIfInBounds_toArray, List.set_cons_zero, List.set_cons_succ]
              refine held_take (i := 12) (v := ?_) rfl (by kernel_rfl) (by kernel_rfl) (by kernel_rfl) (fun _ _ _ h => h) (Or.inl ⟨by rfl, ?_⟩) (by assumption) ?_
              rotate_left
              · intro w hSw; (try dsimp only at hSw); go_simp; try with_reducible rfl
              try simp only [Act.put, List.setIfInBounds_toArray, List.set_cons_zero, List.set_cons_succ]
              refine held_take (i := 13) (v := ?_) rfl (by kernel_rfl) (by kernel_rfl) (by kernel_rfl) (fun _ _ _ h => h) (Or.inl ⟨by rfl, ?_⟩) (by assumption) ?_
              rotate_left
              · intro w hSw; (try dsimp only at hSw); go_simp; try with_reducible rfl
              try simp only [Act.put, List.setIfInBounds_toArray, List.set_cons_zero, List.set_cons_succ]
              refine held_take (i := 14) (v := ?_) rfl (by kernel_rfl) (by kernel_rfl) (by kernel_rfl) (fun _ _ _ h => h) (Or.inl ⟨by rfl, ?_⟩) (by assumption) ?_
              rotate_left
              · intro w hSw; (try dsimp only at hSw); go_simp; try with_reducible rfl
              try simp only [Act.put, List.setIfInBounds_toArray, List.set_cons_zero, List.set_cons_succ]
              refine held_take (i := 15) (v := ?_) rfl (by kernel_rfl) (by kernel_rfl) (by kernel_rfl) (fun _ _ _ h => h) (Or.inl ⟨by rfl, ?_⟩) (by assumption) ?_
              rotate_left
              · intro w hSw; (try dsimp only at hSw); go_simp; try with_reducible rfl
              try simp only [Act.put, List.setIfInBounds_toArray, List.set_cons_zero, List.set_cons_succ]
              refine held_take (i := 16) (v := ?_) rfl (by kernel_rfl) (by kernel_rfl) (by kernel_rfl) (fun _ _ _ h => h) (Or.inl ⟨by rfl, ?_⟩) (by assumption) ?_
              rotate_left
              · intro w hSw; (try dsimp only at hSw); go_simp; try with_reducible rfl
              try simp only [Act.put, List.setIfInBounds_toArray, List.set_cons_zero, List.set_cons_succ]
              refine held_ready (i := 17) rfl (by kernel_rfl) (fun K hK => ?_)
              go_simp
              refine (lsum_st L5d.out.y.log _ u (gu.out _ St5d.out) hu9' (by have := lk2.out; omega)).mono ?_
              rintro e w7 ⟨rfl, F7, l7, f7, U7⟩
              obtain ⟨S7, L7⟩ := stepY.out _ _ _ St5d.out L5d.out l7 f7 U7
              clear l7 f7 U7
              replace S7 := Lib.hid S7
              refine hK.out _ _ (S7.out) (fun hHeldN => ?_)
              clear hHeld hK K
              have hHeld := hHeldN
              clear hHeldN
              try simp only [Act.put, List.setIfInBounds_toArray, List.set_cons_zero, List.set_cons_succ]
              refine held_take (i := 18) (v := ?_) rfl (by kernel_rfl) (by kernel_rfl) (by kernel_rfl) (fun _ _ _ h => h) (Or.inl ⟨by rfl, ?_⟩) (by assumption) ?_
              rotate_left
              · intro w hSw; (try dsimp only at hSw); go_simp; try with_reducible rfl
              try simp only [Act.put, List.setIfInBounds_toArray, List.set_cons_zero, List.set_cons_succ]
              refine held_take (i := 19) (v := ?_) rfl (by kernel_rfl) (by kernel_rfl) (by kernel_rfl) (fun _ _ _ h => h) (Or.inl ⟨by rfl, ?_⟩) (by assumption) ?_
              rotate_left
              · intro w hSw; (try dsimp only at hSw); go_simp; try with_reducible rfl
              try simp only [Act.put, List.setIfInBounds_toArray, List.set_cons_zero, List.set_cons_succ]
              refine held_take (i := 20) (v := ?_) rfl (by kernel_rfl) (by kernel_rfl) (by kernel_rfl) (fun _ _ _ h => h) (Or.inl ⟨by rfl, ?_⟩) (by assumption) ?_
              rotate_left
              · intro w hSw; (try dsimp only at hSw); go_simp; try with_reducible rfl
              try simp only [Act.put, List.setIfInBounds_toArray, List.set_cons_zero, List.set_cons_succ]
              refine held_take (i := 21) (v := ?_) rfl (by kernel_rfl) (by kernel_rfl) (by kernel_rfl) (fun _ _ _ h => h) (Or.inl ⟨by rfl, ?_⟩) (by assumption) ?_
              rotate_left
              · intro w hSw; (try dsimp only at hSw); go_simp; try with_reducible rfl
              try simp only [Act.put, List.setIfInBounds_toArray, List.set_cons_zero, List.set_cons_succ]
              refine held_take (i := 22) (v := ?_) rfl (by kernel_rfl) (by kernel_rfl) (by kernel_rfl) (fun _ _ _ h => h) (Or.inl ⟨by rfl, ?_⟩) (by assumption) ?_
              rotate_left
              · intro w hSw; (try dsimp only at hSw); go_simp; try with_reducible rfl
              try simp only [Act.put, List.setIfInBounds_toArray, List.set_cons_zero, List.set_cons_succ]
              refine held_take (i := 23) (v := ?_) rfl (by kernel_rfl) (by kernel_rfl) (by kernel_rfl) (fun _ _ _ h => h) (Or.inl ⟨by rfl, ?_⟩) (by assumption) ?_
              rotate_left
              · intro w hSw; (try dsimp only at hSw); go_simp; try with_reducible rfl
              try simp only [Act.put, List.setIfInBounds_toArray, List.set_cons_zero, List.set_cons_succ]
              refine held_take (i := 24) (v := _) rfl (by kernel_rfl) (by kernel_rfl) (by kernel_rfl) (fun _ _ _ h => h) (yieldsIf_str (by rfl) rfl rfl (v := .slice ai m ci) gt.out) (by assumption) ?_
              try simp only [Act.put, List.setIfInBounds_toArray, List.set_cons_zero, List.set_cons_succ]
              refine held_take (i := 25) (v := ?_) rfl (by kernel_rfl) (by kernel_rfl) (by kernel_rfl) (fun _ _ _ h => h) (Or.inl ⟨by rfl, ?_⟩) (by assumption) ?_
              rotate_left
              · intro w hSw; (try dsimp only at hSw); go_simp; try with_reducible rfl
              try simp only [Act.put, List.setIfInBounds_toArray, List.set_cons_zero, List.set_cons_succ]
              refine held_take (i := 26) (v := ?_) rfl (by kernel_rfl) (by kernel_rfl) (by kernel_rfl) (fun _ _ _ h => h) (Or.inl ⟨by rfl, ?_⟩) (by assumption) ?_
              rotate_left
              · intro w hSw; (try dsimp only at hSw); go_simp; try with_reducible rfl
              try simp only [Act.put, List.setIfInBounds_toArray, List.set_cons_zero, List.set_cons_succ]
              refine held_take (i := 27) (v := ?_) rfl (by kernel_rfl) (by kernel_rfl) (by kernel_rfl) (fun _ _ _ h => h) (Or.inl ⟨by rfl, ?_⟩) (by assumption) ?_
              rotate_left
              · intro w hSw; (try dsimp only at hSw); go_simp; try with_reducible rfl
              try simp only [Act.put, List.setIfInBounds_toArray, List.set_cons_zero, List.set_cons_succ]
              refine held_take (i := 28) (v := ?_) rfl (by kernel_rfl) (by kernel_rfl) (by kernel_rfl) (fun _ _ _ h => h) (Or.inl ⟨by rfl, ?_⟩) (by assumption) ?_
              rotate_left
              · intro w hSw; (try dsimp only at hSw); go_simp; try with_reducible rfl
              try simp only [Act.put, List.setIfInBounds_toArray, List.set_cons_zero, List.set_cons_succ]
              refine held_take (i := 29) (v := ?_) rfl (by kernel_rfl) (by kernel_rfl) (by kernel_rfl) (fun _ _ _ h => h) (Or.inl ⟨by rfl, ?_⟩) (by assumption) ?_
              rotate_left
              · intro w hSw; (try dsimp only at hSw); go_simp; try with_reducible rfl
              try simp only [Act.put, List.setIfInBounds_toArray, List.set_cons_zero, List.set_cons_succ]
              refine held_take (i := 30) (v := ?_) rfl (by kernel_rfl) (by kernel_rfl) (by kernel_rfl) (fun _ _ _ h => h) (Or.inl ⟨by rfl, ?_⟩) (by assumption) ?_
              rotate_left
              · intro w hSw; (try dsimp only at hSw); go_simp; try with_reducible rfl
              try simp only [Act.put, List.setIfInBounds_toArray, List.set_cons_zero, List.set_cons_succ]
              refine held_take (i := 31) (v := ?_) rfl (by kernel_rfl) (by kernel_rfl) (by kernel_rfl) (fun _ _ _ h => h) (Or.inl ⟨by rfl, ?_⟩) (by assumption) ?_
              rotate_left
              · intro w hSw; (try dsimp only at hSw); go_simp; try with_reducible rfl
              try simp only [Act.put, List.setIfInBounds_toArray, List.set_cons_zero, List.set_cons_succ]
              refine held_take (i := 32) (v := ?_) rfl (by kernel_rfl) (by kernel_rfl) (by kernel_rfl) (fun _ _ _ h => h) (Or.inl ⟨by rfl, ?_⟩) (by assumption) ?_
              rotate_left
              · intro w hSw; (try dsimp only at hSw); go_simp; try with_reducible rfl
              try simp only [Act.put, List.setIfInBounds_toArray, List.set_cons_zero, List.set_cons_succ]
              refine held_take (i := 33) (v := _) rfl (by kernel_rfl) (by kernel_rfl) (by kernel_rfl) (fun _ _ _ h => h) (yieldsIf_str (by rfl) rfl rfl (v := .slice aj mu cj) gu.out) (by assumption) ?_
              try simp only [Act.put, List.setIfInBounds_toArray, List.set_cons_zero, List.set_cons_succ]
              refine held_take (i := 34) (v := ?_) rfl (by kernel_rfl) (by kernel_rfl) (by kernel_rfl) (fun _ _ _ h => h) (Or.inl ⟨by rfl, ?_⟩) (by assumption) ?_
              rotate_left
              · intro w hSw; (try dsimp only at hSw); go_simp; try with_reducible rfl
              try simp only [Act.put, List.setIfInBounds_toArray, List.set_cons_zero, List.set_cons_succ]
              refine held_take (i := 35) (v := ?_) rfl (by kernel_rfl) (by kernel_rfl) (by kernel_rfl) (fun _ _ _ h => h) (Or.inl ⟨by rfl, ?_⟩) (by assumption) ?_
              rotate_left
              · intro w hSw; (try dsimp only at hSw); go_simp; try with_reducible rfl
              try simp only [Act.put, List.setIfInBounds_toArray, List.set_cons_zero, List.set_cons_succ]
              refine held_take (i := 36) (v := ?_) rfl (by kernel_rfl) (by kernel_rfl) (by kernel_rfl) (fun _ _ _ h => h) (Or.inl ⟨by rfl, ?_⟩) (by assumption) ?_
              rotate_left
              · intro w hSw; (try dsimp only at hSw); go_simp; try with_reducible rfl
              try simp only [Act.put, List.setIfInBounds_toArray, List.set_cons_zero, List.set_cons_succ]
              refine wpAnyH_done (by kernel_rfl) ?_ _
              clear hHeld
              rw [← ekeep.out, ← ekep.out] at L7
              replace L7 := Lib.hid L7
              go_wp2_with fail
              go_roundw
              case rel => exact ⟨k + 1, F4, F7, by omega, by go_num, L7.out, hs'.out⟩
              case measure => simp [intOf]; omega
          · have hd : decide (t ∈ Tx) = false := decide_eq_false hm
            rw [hd]
            rw [show (addT Tx t).length = Tx.length + 1 from by rw [addT_out hm]; simp] at cc
            have hab : ((Tx.length : Int) + 1 == (Tx.length : Int)) = false := beq_eq_false_iff_ne.2 (by omega)
            have hab2 : (((Tx.length + 1 : Nat) : Int) == (Tx.length : Int)) = false := beq_eq_false_iff_ne.2 (by omega)
            have hab3 : ¬ ((Tx.length : Int) + 1 = (Tx.length : Int)) := by omega
            clear hne hd hm
            by_cases hq : sumOf t = sumOf u
            · have q1 := fun (x : World) => run_equal_arr (P := Try.prog) Try.underlying27 Try.underlying5 (by kernel_rfl) (sumOf_lt t) (sumOf_lt u) (length_sumOf _) (length_sumOf _) x
              rw [show (sumOf t == sumOf u) = true from beq_iff_eq.2 hq] at q1
              replace hq := Lib.hid hq
              refine wp_region_held_drew (S := (fun w' => StaySt w' g ob oo k j (.slice ai m ci) (.slice aj mu cj) t u)) (by kernel_rfl) (St5d.out) (fun hHeld => ?_)
              refine held_take (i := 0) (v := ?_) rfl (by kernel_rfl) (by kernel_rfl) (by kernel_rfl) (fun _ _ _ h => h) (Or.inl ⟨by rfl, ?_⟩) (by assumption) ?_
              rotate_left
              · intro w hSw; (try dsimp only at hSw); go_simp; try with_reducible rfl
              try simp only [Act.put, List.setIfInBounds_toArray, List.set_cons_zero, List.set_cons_succ]
              refine held_take (i := 2) (v := ?_) rfl (by kernel_rfl) (by kernel_rfl) (by kernel_rfl) (fun _ _ _ h => h) (Or.inl ⟨by rfl, ?_⟩) (by assumption) ?_
              rotate_left
              · intro w hSw; (try dsimp only at hSw); go_simp; try with_reducible rfl
              try simp only [Act.put, List.setIfInBounds_toArray, List.set_cons_zero, List.set_cons_succ]
              refine held_take (i := 4) (v := ?_) rfl (by kernel_rfl) (by kernel_rfl) (by kernel_rfl) (fun _ _ _ h => h) (Or.inl ⟨by rfl, ?_⟩) (by assumption) ?_
              rotate_left
              · intro w hSw; (try dsimp only at hSw); go_simp; try with_reducible rfl
              try simp only [Act.put, List.setIfInBounds_toArray, List.set_cons_zero, List.set_cons_succ]
              refine held_ready (i := 1) rfl (by kernel_rfl) (fun K hK => ?_)
              go_simp
              refine cc.out.mono ?_; rintro e w6 ⟨rfl, rfl⟩
              refine hK.out _ _ (St5d.out) (fun hHeldN => ?_)
              clear hHeld hK K
              have hHeld := hHeldN
              clear hHeldN
              try simp only [Act.put, List.setIfInBounds_toArray, List.set_cons_zero, List.set_cons_succ]
              refine held_take (i := 3) (v := ?_) rfl (by kernel_rfl) (by kernel_rfl) (by kernel_rfl) (fun _ _ _ h => h) (Or.inl ⟨by rfl, ?_⟩) (by assumption) ?_
              rotate_left
              · intro w hSw; (try dsimp only at hSw); go_simp; try with_reducible rfl
              try simp only [Act.put, List.setIfInBounds_toArray, List.set_cons_zero, List.set_cons_succ]
              refine held_take (i := 5) (v := ?_) rfl (by kernel_rfl) (by kernel_rfl) (by kernel_rfl) (fun _ _ _ h => h) (Or.inl ⟨by rfl, ?_⟩) (by assumption) ?_
              rotate_left
              · intro w hSw; (try dsimp only at hSw); go_simp; try with_reducible rfl
              try simp only [Act.put, List.setIfInBounds_toArray, List.set_cons_zero, List.set_cons_succ]
              refine held_take (i := 6) (v := ?_) rfl (by kernel_rfl) (by kernel_rfl) (by kernel_rfl) (fun _ _ _ h => h) (Or.inl ⟨by rfl, ?_⟩) (by assumption) ?_
              rotate_left
              · intro w hSw; (try dsimp only at hSw); go_simp; try with_reducible rfl
              try simp only [Act.put, List.setIfInBounds_toArray, List.set_cons_zero, List.set_cons_succ]
              refine held_take (i := 7) (v := _) rfl (by kernel_rfl) (by kernel_rfl) (by kernel_rfl) (fun _ _ _ h => h) (yieldsIf_row (by rfl) rfl rfl Try.underlying27 is gs.out) (by assumption) ?_
              try simp only [Act.put, List.setIfInBounds_toArray, List.set_cons_zero, List.set_cons_succ]
              refine held_take (i := 8) (v := ?_) rfl (by kernel_rfl) (by kernel_rfl) (by kernel_rfl) (fun _ _ _ h => h) (Or.inl ⟨by rfl, ?_⟩) (by assumption) ?_
              rotate_left
              · intro w hSw; (try dsimp only at hSw); go_simp; try with_reducible rfl
              try simp only [Act.put, List.setIfInBounds_toArray, List.set_cons_zero, List.set_cons_succ]
              refine held_take (i := 9) (v := ?_) rfl (by kernel_rfl) (by kernel_rfl) (by kernel_rfl) (fun _ _ _ h => h) (Or.inl ⟨by rfl, ?_⟩) (by assumption) ?_
              rotate_left
              · intro w hSw; (try dsimp only at hSw); go_simp; try with_reducible rfl
              try simp only [Act.put, List.setIfInBounds_toArray, List.set_cons_zero, List.set_cons_succ]
              refine held_take (i := 10) (v := ?_) rfl (by kernel_rfl) (by kernel_rfl) (by kernel_rfl) (fun _ _ _ h => h) (Or.inl ⟨by rfl, ?_⟩) (by assumption) ?_
              rotate_left
              · intro w hSw; (try dsimp only at hSw); go_simp; try with_reducible rfl
              try simp only [Act.put, List.setIfInBounds_toArray, List.set_cons_zero, List.set_cons_succ]
              refine held_take (i := 11) (v := ?_) rfl (by kernel_rfl) (by kernel_rfl) (by kernel_rfl) (fun _ _ _ h => h) (Or.inl ⟨by rfl, ?_⟩) (by assumption) ?_
              rotate_left
              · intro w hSw; (try dsimp only at hSw); go_simp; try with_reducible rfl
              try simp only [Act.put, List.setIfInBounds_toArray, List.set_cons_zero, List.set_cons_succ]
              refine held_take (i := 12) (v := ?_) rfl (by kernel_rfl) (by kernel_rfl) (by kernel_rfl) (fun _ _ _ h => h) (Or.inl ⟨by rfl, ?_⟩) (by assumption) ?_
              rotate_left
              · intro w hSw; (try dsimp only at hSw); go_simp; try with_reducible rfl
              try simp only [Act.put, List.setIfInBounds_toArray, List.set_cons_zero, List.set_cons_succ]
              refine held_take (i := 13) (v := ?_) rfl (by kernel_rfl) (by kernel_rfl) (by kernel_rfl) (fun _ _ _ h => h) (Or.inl ⟨by rfl, ?_⟩) (by assumption) ?_
              rotate_left
              · intro w hSw; (try dsimp only at hSw); go_simp; try with_reducible rfl
              try simp only [Act.put, List.setIfInBounds_toArray, List.set_cons_zero, List.set_cons_succ]
              refine held_take (i := 14) (v := ?_) rfl (by kernel_rfl) (by kernel_rfl) (by kernel_rfl) (fun _ _ _ h => h) (Or.inl ⟨by rfl, ?_⟩) (by assumption) ?_
              rotate_left
              · intro w hSw; (try dsimp only at hSw); go_simp; try with_reducible rfl
              try simp only [Act.put, List.setIfInBounds_toArray, List.set_cons_zero, List.set_cons_succ]
              refine held_take (i := 15) (v := ?_) rfl (by kernel_rfl) (by kernel_rfl) (by kernel_rfl) (fun _ _ _ h => h) (Or.inl ⟨by rfl, ?_⟩) (by assumption) ?_
              rotate_left
              · intro w hSw; (try dsimp only at hSw); go_simp; try with_reducible rfl
              try simp only [Act.put, List.setIfInBounds_toArray, List.set_cons_zero, List.set_cons_succ]
              refine held_take (i := 16) (v := ?_) rfl (by kernel_rfl) (by kernel_rfl) (by kernel_rfl) (fun _ _ _ h => h) (Or.inl ⟨by rfl, ?_⟩) (by assumption) ?_
              rotate_left
              · intro w hSw; (try dsimp only at hSw); go_simp; try with_reducible rfl
              try simp only [Act.put, List.setIfInBounds_toArray, List.set_cons_zero, List.set_cons_succ]
              refine held_ready (i := 17) rfl (by kernel_rfl) (fun K hK => ?_)
              go_simp
              refine (lsum_st L5d.out.y.log _ u (gu.out _ St5d.out) hu9' (by have := lk2.out; omega)).mono ?_
              rintro e w7 ⟨rfl, F7, l7, f7, U7⟩
              obtain ⟨S7, L7⟩ := stepY.out _ _ _ St5d.out L5d.out l7 f7 U7
              clear l7 f7 U7
              replace S7 := Lib.hid S7
              refine hK.out _ _ (S7.out) (fun hHeldN => ?_)
              clear hHeld hK K
              have hHeld := hHeldN
              clear hHeldN
              try simp only [Act.put, List.setIfInBounds_toArray, List.set_cons_zero, List.set_cons_succ]
              refine held_take (i := 18) (v := ?_) rfl (by kernel_rfl) (by kernel_rfl) (by kernel_rfl) (fun _ _ _ h => h) (Or.inl ⟨by rfl, ?_⟩) (by assumption) ?_
              rotate_left
              · intro w hSw; (try dsimp only at hSw); go_simp; try with_reducible rfl
              try simp only [Act.put, List.setIfInBounds_toArray, List.set_cons_zero, List.set_cons_succ]
              refine held_take (i := 19) (v := ?_) rfl (by kernel_rfl) (by kernel_rfl) (by kernel_rfl) (fun _ _ _ h => h) (Or.inl ⟨by rfl, ?_⟩) (by assumption) ?_
              rotate_left
              · intro w hSw; (try dsimp only at hSw); go_simp; try with_reducible rfl
              try simp only [Act.put, List.setIfInBounds_toArray, List.set_cons_zero, List.set_cons_succ]
              refine held_take (i := 20) (v := _) rfl (by kernel_rfl) (by kernel_rfl) (by kernel_rfl) (fun _ _ _ h => h) (Or.inr ⟨by rfl, rfl⟩) (by assumption) ?_
              try simp only [Act.put, List.setIfInBounds_toArray, List.set_cons_zero, List.set_cons_succ]
              refine held_take (i := 21) (v := _) rfl (by kernel_rfl) (by kernel_rfl) (by kernel_rfl) (fun _ _ _ h => h) (Or.inr ⟨by rfl, rfl⟩) (by assumption) ?_
              try simp only [Act.put, List.setIfInBounds_toArray, List.set_cons_zero, List.set_cons_succ]
              refine held_take (i := 22) (v := _) rfl (by kernel_rfl) (by kernel_rfl) (by kernel_rfl) (fun _ _ _ h => h) (Or.inr ⟨by rfl, rfl⟩) (by assumption) ?_
              try simp only [Act.put, List.setIfInBounds_toArray, List.set_cons_zero, List.set_cons_succ]
              refine held_take (i := 23) (v := _) rfl (by kernel_rfl) (by kernel_rfl) (by kernel_rfl) (fun _ _ _ h => h) (Or.inr ⟨by rfl, rfl⟩) (by assumption) ?_
              try simp only [Act.put, List.setIfInBounds_toArray, List.set_cons_zero, List.set_cons_succ]
              refine held_take (i := 24) (v := _) rfl (by kernel_rfl) (by kernel_rfl) (by kernel_rfl) (fun _ _ _ h => h) (Or.inr ⟨by rfl, rfl⟩) (by assumption) ?_
              try simp only [Act.put, List.setIfInBounds_toArray, List.set_cons_zero, List.set_cons_succ]
              refine held_take (i := 25) (v := _) rfl (by kernel_rfl) (by kernel_rfl) (by kernel_rfl) (fun _ _ _ h => h) (Or.inr ⟨by rfl, rfl⟩) (by assumption) ?_
              try simp only [Act.put, List.setIfInBounds_toArray, List.set_cons_zero, List.set_cons_succ]
              refine held_take (i := 26) (v := _) rfl (by kernel_rfl) (by kernel_rfl) (by kernel_rfl) (fun _ _ _ h => h) (Or.inr ⟨by rfl, rfl⟩) (by assumption) ?_
              try simp only [Act.put, List.setIfInBounds_toArray, List.set_cons_zero, List.set_cons_succ]
              refine held_take (i := 27) (v := _) rfl (by kernel_rfl) (by kernel_rfl) (by kernel_rfl) (fun _ _ _ h => h) (Or.inr ⟨by rfl, rfl⟩) (by assumption) ?_
              try simp only [Act.put, List.setIfInBounds_toArray, List.set_cons_zero, List.set_cons_succ]
              refine held_take (i := 28) (v := _) rfl (by kernel_rfl) (by kernel_rfl) (by kernel_rfl) (fun _ _ _ h => h) (Or.inr ⟨by rfl, rfl⟩) (by assumption) ?_
              try simp only [Act.put, List.setIfInBounds_toArray, List.set_cons_zero, List.set_cons_succ]
              refine held_take (i := 29) (v := _) rfl (by kernel_rfl) (by kernel_rfl) (by kernel_rfl) (fun _ _ _ h => h) (Or.inr ⟨by rfl, rfl⟩) (by assumption) ?_
              try simp only [Act.put, List.setIfInBounds_toArray, List.set_cons_zero, List.set_cons_succ]
              refine held_take (i := 30) (v := _) rfl (by kernel_rfl) (by kernel_rfl) (by kernel_rfl) (fun _ _ _ h => h) (Or.inr ⟨by rfl, rfl⟩) (by assumption) ?_
              try simp only [Act.put, List.setIfInBounds_toArray, List.set_cons_zero, List.set_cons_succ]
              refine held_take (i := 31) (v := _) rfl (by kernel_rfl) (by kernel_rfl) (by kernel_rfl) (fun _ _ _ h => h) (Or.inr ⟨by rfl, rfl⟩) (by assumption) ?_
              try simp only [Act.put, List.setIfInBounds_toArray, List.set_cons_zero, List.set_cons_succ]
              refine held_take (i := 32) (v := _) rfl (by kernel_rfl) (by kernel_rfl) (by kernel_rfl) (fun _ _ _ h => h) (Or.inr ⟨by rfl, rfl⟩) (by assumption) ?_
              try simp only [Act.put, List.setIfInBounds_toArray, List.set_cons_zero, List.set_cons_succ]
              refine held_take (i := 33) (v := _) rfl (by kernel_rfl) (by kernel_rfl) (by kernel_rfl) (fun _ _ _ h => h) (Or.inr ⟨by rfl, rfl⟩) (by assumption) ?_
              try simp only [Act.put, List.setIfInBounds_toArray, List.set_cons_zero, List.set_cons_succ]
              refine held_take (i := 34) (v := _) rfl (by kernel_rfl) (by kernel_rfl) (by kernel_rfl) (fun _ _ _ h => h) (Or.inr ⟨by rfl, rfl⟩) (by assumption) ?_
              try simp only [Act.put, List.setIfInBounds_toArray, List.set_cons_zero, List.set_cons_succ]
              refine held_take (i := 35) (v := ?_) rfl (by kernel_rfl) (by kernel_rfl) (by kernel_rfl) (fun _ _ _ h => h) (Or.inl ⟨by rfl, ?_⟩) (by assumption) ?_
              rotate_left
              · intro w hSw; (try dsimp only at hSw); go_simp; try with_reducible rfl
              try simp only [Act.put, List.setIfInBounds_toArray, List.set_cons_zero, List.set_cons_succ]
              refine held_take (i := 36) (v := ?_) rfl (by kernel_rfl) (by kernel_rfl) (by kernel_rfl) (fun _ _ _ h => h) (Or.inl ⟨by rfl, ?_⟩) (by assumption) ?_
              rotate_left
              · intro w hSw; (try dsimp only at hSw); go_simp; try with_reducible rfl
              try simp only [Act.put, List.setIfInBounds_toArray, List.set_cons_zero, List.set_cons_succ]
              refine wpAnyH_done (by kernel_rfl) ?_ _
              clear hHeld
              rw [← ekeep.out, ← ekep.out] at L7
              replace L7 := Lib.hid L7
              go_wp2_with fail
              go_roundw
              case rel => exact ⟨k + 1, F4, F7, by omega, by go_num, L7.out, hs'.out⟩
              case measure => simp [intOf]; omega
            · have q1 := fun (x : World) => run_equal_arr (P := Try.prog) Try.underlying27 Try.underlying5 (by kernel_rfl) (sumOf_lt t) (sumOf_lt u) (length_sumOf _) (length_sumOf _) x
              rw [show (sumOf t == sumOf u) = false from beq_eq_false_iff_ne.2 hq] at q1
              have htu : (t == u) = false := beq_eq_false_iff_ne.2 (fun e => hq (by rw [e]))
              have sd := str_dec t1.out.small t2.out.small
              have sl := str_lst t1.out.small t2.out.small
              rw [htu] at sd sl
              have np : ¬ strOf t = strOf u := of_decide_eq_false sd
              replace hq := Lib.hid hq
              replace htu := Lib.hid htu
              refine wp_region_held_drew (S := (fun w' => StaySt w' g ob oo k j (.slice ai m ci) (.slice aj mu cj) t u)) (by kernel_rfl) (St5d.out) (fun hHeld => ?_)
              refine held_take (i := 0) (v := ?_) rfl (by kernel_rfl) (by kernel_rfl) (by kernel_rfl) (fun _ _ _ h => h) (Or.inl ⟨by rfl, ?_⟩) (by assumption) ?_
              rotate_left
              · intro w hSw; (try dsimp only at hSw); go_simp; try with_reducible rfl
              try simp only [Act.put, List.setIfInBounds_toArray, List.set_cons_zero, List.set_cons_succ]
              refine held_take (i := 2) (v := ?_) rfl (by kernel_rfl) (by kernel_rfl) (by kernel_rfl) (fun _ _ _ h => h) (Or.inl ⟨by rfl, ?_⟩) (by assumption) ?_
              rotate_left
              · intro w hSw; (try dsimp only at hSw); go_simp; try with_reducible rfl
              try simp only [Act.put, List.setIfInBounds_toArray, List.set_cons_zero, List.set_cons_succ]
              refine held_take (i := 4) (v := ?_) rfl (by kernel_rfl) (by kernel_rfl) (by kernel_rfl) (fun _ _ _ h => h) (Or.inl ⟨by rfl, ?_⟩) (by assumption) ?_
              rotate_left
              · intro w hSw; (try dsimp only at hSw); go_simp; try with_reducible rfl
              try simp only [Act.put, List.setIfInBounds_toArray, List.set_cons_zero, List.set_cons_succ]
              refine held_ready (i := 1) rfl (by kernel_rfl) (fun K hK => ?_)
              go_simp
              refine cc.out.mono ?_; rintro e w6 ⟨rfl, rfl⟩
              refine hK.out _ _ (St5d.out) (fun hHeldN => ?_)
              clear hHeld hK K
              have hHeld := hHeldN
              clear hHeldN
              try simp only [Act.put, List.setIfInBounds_toArray, List.set_cons_zero, List.set_cons_succ]
              refine held_take (i := 3) (v := ?_) rfl (by kernel_rfl) (by kernel_rfl) (by kernel_rfl) (fun _ _ _ h => h) (Or.inl ⟨by rfl, ?_⟩) (by assumption) ?_
              rotate_left
              · intro w hSw; (try dsimp only at hSw); go_simp; try with_reducible rfl
              try simp only [Act.put, List.setIfInBounds_toArray, List.set_cons_zero, List.set_cons_succ]
              refine held_take (i := 5) (v := ?_) rfl (by kernel_rfl) (by kernel_rfl) (by kernel_rfl) (fun _ _ _ h => h) (Or.inl ⟨by rfl, ?_⟩) (by assumption) ?_
              rotate_left
              · intro w hSw; (try dsimp only at hSw); go_simp; try with_reducible rfl
              try simp only [Act.put, List.setIfInBounds_toArray, List.set_cons_zero, List.set_cons_succ]
              refine held_take (i := 6) (v := ?_) rfl (by kernel_rfl) (by kernel_rfl) (by kernel_rfl) (fun _ _ _ h => h) (Or.inl ⟨by rfl, ?_⟩) (by assumption) ?_
              rotate_left
              · intro w hSw; (try dsimp only at hSw); go_simp; try with_reducible rfl
              try simp only [Act.put, List.setIfInBounds_toArray, List.set_cons_zero, List.set_cons_succ]
              refine held_take (i := 7) (v := _) rfl (by kernel_rfl) (by kernel_rfl) (by kernel_rfl) (fun _ _ _ h => h) (yieldsIf_row (by rfl) rfl rfl Try.underlying27 is gs.out) (by assumption) ?_
              try simp only [Act.put, List.setIfInBounds_toArray, List.set_cons_zero, List.set_cons_succ]
              refine held_take (i := 8) (v := ?_) rfl (by kernel_rfl) (by kernel_rfl) (by kernel_rfl) (fun _ _ _ h => h) (Or.inl ⟨by rfl, ?_⟩) (by assumption) ?_
              rotate_left
              · intro w hSw; (try dsimp only at hSw); go_simp; try with_reducible rfl
              try simp only [Act.put, List.setIfInBounds_toArray, List.set_cons_zero, List.set_cons_succ]
              refine held_take (i := 9) (v := ?_) rfl (by kernel_rfl) (by kernel_rfl) (by kernel_rfl) (fun _ _ _ h => h) (Or.inl ⟨by rfl, ?_⟩) (by assumption) ?_
              rotate_left
              · intro w hSw; (try dsimp only at hSw); go_simp; try with_reducible rfl
              try simp only [Act.put, List.setIfInBounds_toArray, List.set_cons_zero, List.set_cons_succ]
              refine held_take (i := 10) (v := ?_) rfl (by kernel_rfl) (by kernel_rfl) (by kernel_rfl) (fun _ _ _ h => h) (Or.inl ⟨by rfl, ?_⟩) (by assumption) ?_
              rotate_left
              · intro w hSw; (try dsimp only at hSw); go_simp; try with_reducible rfl
              try simp only [Act.put, List.setIfInBounds_toArray, List.set_cons_zero, List.set_cons_succ]
              refine held_take (i := 11) (v := ?_) rfl (by kernel_rfl) (by kernel_rfl) (by kernel_rfl) (fun _ _ _ h => h) (Or.inl ⟨by rfl, ?_⟩) (by assumption) ?_
              rotate_left
              · intro w hSw; (try dsimp only at hSw); go_simp; try with_reducible rfl
              try simp only [Act.put, List.setIfInBounds_toArray, List.set_cons_zero, List.set_cons_succ]
              refine held_take (i := 12) (v := ?_) rfl (by kernel_rfl) (by kernel_rfl) (by kernel_rfl) (fun _ _ _ h => h) (Or.inl ⟨by rfl, ?_⟩) (by assumption) ?_
              rotate_left
              · intro w hSw; (try dsimp only at hSw); go_simp; try with_reducible rfl
              try simp only [Act.put, List.setIfInBounds_toArray, List.set_cons_zero, List.set_cons_succ]
              refine held_take (i := 13) (v := ?_) rfl (by kernel_rfl) (by kernel_rfl) (by kernel_rfl) (fun _ _ _ h => h) (Or.inl ⟨by rfl, ?_⟩) (by assumption) ?_
              rotate_left
              · intro w hSw; (try dsimp only at hSw); go_simp; try with_reducible rfl
              try simp only [Act.put, List.setIfInBounds_toArray, List.set_cons_zero, List.set_cons_succ]
              refine held_take (i := 14) (v := ?_) rfl (by kernel_rfl) (by kernel_rfl) (by kernel_rfl) (fun _ _ _ h => h) (Or.inl ⟨by rfl, ?_⟩) (by assumption) ?_
              rotate_left
              · intro w hSw; (try dsimp only at hSw); go_simp; try with_reducible rfl
              try simp only [Act.put, List.setIfInBounds_toArray, List.set_cons_zero, List.set_cons_succ]
              refine held_take (i := 15) (v := ?_) rfl (by kernel_rfl) (by kernel_rfl) (by kernel_rfl) (fun _ _ _ h => h) (Or.inl ⟨by rfl, ?_⟩) (by assumption) ?_
              rotate_left
              · intro w hSw; (try dsimp only at hSw); go_simp; try with_reducible rfl
              try simp only [Act.put, List.setIfInBounds_toArray, List.set_cons_zero, List.set_cons_succ]
              refine held_take (i := 16) (v := ?_) rfl (by kernel_rfl) (by kernel_rfl) (by kernel_rfl) (fun _ _ _ h => h) (Or.inl ⟨by rfl, ?_⟩) (by assumption) ?_
              rotate_left
              · intro w hSw; (try dsimp only at hSw); go_simp; try with_reducible rfl
              try simp only [Act.put, List.setIfInBounds_toArray, List.set_cons_zero, List.set_cons_succ]
              refine held_ready (i := 17) rfl (by kernel_rfl) (fun K hK => ?_)
              go_simp
              refine (lsum_st L5d.out.y.log _ u (gu.out _ St5d.out) hu9' (by have := lk2.out; omega)).mono ?_
              rintro e w7 ⟨rfl, F7, l7, f7, U7⟩
              obtain ⟨S7, L7⟩ := stepY.out _ _ _ St5d.out L5d.out l7 f7 U7
              clear l7 f7 U7
              replace S7 := Lib.hid S7
              refine hK.out _ _ (S7.out) (fun hHeldN => ?_)
              clear hHeld hK K
              have hHeld := hHeldN
              clear hHeldN
              try simp only [Act.put, List.setIfInBounds_toArray, List.set_cons_zero, List.set_cons_succ]
              refine held_take (i := 18) (v := ?_) rfl (by kernel_rfl) (by kernel_rfl) (by kernel_rfl) (fun _ _ _ h => h) (Or.inl ⟨by rfl, ?_⟩) (by assumption) ?_
              rotate_left
              · intro w hSw; (try dsimp only at hSw); go_simp; try with_reducible rfl
              try simp only [Act.put, List.setIfInBounds_toArray, List.set_cons_zero, List.set_cons_succ]
              refine held_take (i := 19) (v := ?_) rfl (by kernel_rfl) (by kernel_rfl) (by kernel_rfl) (fun _ _ _ h => h) (Or.inl ⟨by rfl, ?_⟩) (by assumption) ?_
              rotate_left
              · intro w hSw; (try dsimp only at hSw); go_simp; try with_reducible rfl
              try simp only [Act.put, List.setIfInBounds_toArray, List.set_cons_zero, List.set_cons_succ]
              refine held_take (i := 20) (v := ?_) rfl (by kernel_rfl) (by kernel_rfl) (by kernel_rfl) (fun _ _ _ h => h) (Or.inl ⟨by rfl, ?_⟩) (by assumption) ?_
              rotate_left
              · intro w hSw; (try dsimp only at hSw); go_simp; try with_reducible rfl
              try simp only [Act.put, List.setIfInBounds_toArray, List.set_cons_zero, List.set_cons_succ]
              refine held_take (i := 21) (v := ?_) rfl (by kernel_rfl) (by kernel_rfl) (by kernel_rfl) (fun _ _ _ h => h) (Or.inl ⟨by rfl, ?_⟩) (by assumption) ?_
              rotate_left
              · intro w hSw; (try dsimp only at hSw); go_simp; try with_reducible rfl
              try simp only [Act.put, List.setIfInBounds_toArray, List.set_cons_zero, List.set_cons_succ]
              refine held_take (i := 22) (v := ?_) rfl (by kernel_rfl) (by kernel_rfl) (by kernel_rfl) (fun _ _ _ h => h) (Or.inl ⟨by rfl, ?_⟩) (by assumption) ?_
              rotate_left
              · intro w hSw; (try dsimp only at hSw); go_simp; try with_reducible rfl
              try simp only [Act.put, List.setIfInBounds_toArray, List.set_cons_zero, List.set_cons_succ]
              refine held_take (i := 23) (v := ?_) rfl (by kernel_rfl) (by kernel_rfl) (by kernel_rfl) (fun _ _ _ h => h) (Or.inl ⟨by rfl, ?_⟩) (by assumption) ?_
              rotate_left
              · intro w hSw; (try dsimp only at hSw); go_simp; try with_reducible rfl
              try simp only [Act.put, List.setIfInBounds_toArray, List.set_cons_zero, List.set_cons_succ]
              refine held_take (i := 24) (v := _) rfl (by kernel_rfl) (by kernel_rfl) (by kernel_rfl) (fun _ _ _ h => h) (yieldsIf_str (by rfl) rfl rfl (v := .slice ai m ci) gt.out) (by assumption) ?_
              try simp only [Act.put, List.setIfInBounds_toArray, List.set_cons_zero, List.set_cons_succ]
              refine held_take (i := 25) (v := ?_) rfl (by kernel_rfl) (by kernel_rfl) (by kernel_rfl) (fun _ _ _ h => h) (Or.inl ⟨by rfl, ?_⟩) (by assumption) ?_
              rotate_left
              · intro w hSw; (try dsimp only at hSw); go_simp; try with_reducible rfl
              try simp only [Act.put, List.setIfInBounds_toArray, List.set_cons_zero, List.set_cons_succ]
              refine held_take (i := 26) (v := ?_) rfl (by kernel_rfl) (by kernel_rfl) (by kernel_rfl) (fun _ _ _ h => h) (Or.inl ⟨by rfl, ?_⟩) (by assumption) ?_
              rotate_left
              · intro w hSw; (try dsimp only at hSw); go_simp; try with_reducible rfl
              try simp only [Act.put, List.setIfInBounds_toArray, List.set_cons_zero, List.set_cons_succ]
              refine held_take (i := 27) (v := ?_) rfl (by kernel_rfl) (by kernel_rfl) (by kernel_rfl) (fun _ _ _ h => h) (Or.inl ⟨by rfl, ?_⟩) (by assumption) ?_
              rotate_left
              · intro w hSw; (try dsimp only at hSw); go_simp; try with_reducible rfl
              try simp only [Act.put, List.setIfInBounds_toArray, List.set_cons_zero, List.set_cons_succ]
              refine held_take (i := 28) (v := ?_) rfl (by kernel_rfl) (by kernel_rfl) (by kernel_rfl) (fun _ _ _ h => h) (Or.inl ⟨by rfl, ?_⟩) (by assumption) ?_
              rotate_left
              · intro w hSw; (try dsimp only at hSw); go_simp; try with_reducible rfl
              try simp only [Act.put, List.setIfInBounds_toArray, List.set_cons_zero, List.set_cons_succ]
              refine held_take (i := 29) (v := ?_) rfl (by kernel_rfl) (by kernel_rfl) (by kernel_rfl) (fun _ _ _ h => h) (Or.inl ⟨by rfl, ?_⟩) (by assumption) ?_
              rotate_left
              · intro w hSw; (try dsimp only at hSw); go_simp; try with_reducible rfl
              try simp only [Act.put, List.setIfInBounds_toArray, List.set_cons_zero, List.set_cons_succ]
              refine held_take (i := 30) (v := ?_) rfl (by kernel_rfl) (by kernel_rfl) (by kernel_rfl) (fun _ _ _ h => h) (Or.inl ⟨by rfl, ?_⟩) (by assumption) ?_
              rotate_left
              · intro w hSw; (try dsimp only at hSw); go_simp; try with_reducible rfl
              try simp only [Act.put, List.setIfInBounds_toArray, List.set_cons_zero, List.set_cons_succ]
              refine held_take (i := 31) (v := ?_) rfl (by kernel_rfl) (by kernel_rfl) (by kernel_rfl) (fun _ _ _ h => h) (Or.inl ⟨by rfl, ?_⟩) (by assumption) ?_
              rotate_left
              · intro w hSw; (try dsimp only at hSw); go_simp; try with_reducible rfl
              try simp only [Act.put, List.setIfInBounds_toArray, List.set_cons_zero, List.set_cons_succ]
              refine held_take (i := 32) (v := ?_) rfl (by kernel_rfl) (by kernel_rfl) (by kernel_rfl) (fun _ _ _ h => h) (Or.inl ⟨by rfl, ?_⟩) (by assumption) ?_
              rotate_left
              · intro w hSw; (try dsimp only at hSw); go_simp; try with_reducible rfl
              try simp only [Act.put, List.setIfInBounds_toArray, List.set_cons_zero, List.set_cons_succ]
              refine held_take (i := 33) (v := _) rfl (by kernel_rfl) (by kernel_rfl) (by kernel_rfl) (fun _ _ _ h => h) (yieldsIf_str (by rfl) rfl rfl (v := .slice aj mu cj) gu.out) (by assumption) ?_
              try simp only [Act.put, List.setIfInBounds_toArray, List.set_cons_zero, List.set_cons_succ]
              refine held_take (i := 34) (v := ?_) rfl (by kernel_rfl) (by kernel_rfl) (by kernel_rfl) (fun _ _ _ h => h) (Or.inl ⟨by rfl, ?_⟩) (by assumption) ?_
              rotate_left
              · intro w hSw; (try dsimp only at hSw); go_simp; try with_reducible rfl
              try simp only [Act.put, List.setIfInBounds_toArray, List.set_cons_zero, List.set_cons_succ]
              refine held_take (i := 35) (v := ?_) rfl (by kernel_rfl) (by kernel_rfl) (by kernel_rfl) (fun _ _ _ h => h) (Or.inl ⟨by rfl, ?_⟩) (by assumption) ?_
              rotate_left
              · intro w hSw; (try dsimp only at hSw); go_simp; try with_reducible rfl
              try simp only [Act.put, List.setIfInBounds_toArray, List.set_cons_zero, List.set_cons_succ]
              refine held_take (i := 36) (v := ?_) rfl (by kernel_rfl) (by kernel_rfl) (by kernel_rfl) (fun _ _ _ h => h) (Or.inl ⟨by rfl, ?_⟩) (by assumption) ?_
              rotate_left
              · intro w hSw; (try dsimp only at hSw); go_simp; try with_reducible rfl
              try simp only [Act.put, List.setIfInBounds_toArray, List.set_cons_zero, List.set_cons_succ]
              refine wpAnyH_done (by kernel_rfl) ?_ _
              clear hHeld
              rw [← ekeep.out, ← ekep.out] at L7
              replace L7 := Lib.hid L7
              go_wp2_with fail
              go_roundw
              case rel => exact ⟨k + 1, F4, F7, by omega, by go_num, L7.out, hs'.out⟩
              case measure => simp [intOf]; omega
      · obtain rfl : k = n := by omega
        have hkk : (keepTo ls k).length = (kepTo ls k).length := by rw [en.out]; exact keep_kep ls
        have hin : ∀ i, i < k → ls.getD i [] ∈ keepTo ls k := fun i hi => (mem_keep _ _ _).2 ⟨i, hi, rfl⟩
        have lk := length_keep ls k
        replace hL := Lib.hid hL
        replace hs := Lib.hid hs
        replace hkk := Lib.hid hkk
        replace hin := Lib.hid hin
        replace lk := Lib.hid lk
        go_wp2_with fail
        obtain ⟨wq, rfl⟩ : ∃ wq : World, wq = wr := ⟨_, rfl⟩
        go_loopw [9] (fun i wr => ∃ q : Nat, q ≤ k ∧ i = .int .i64 q ∧ TwoLogs w wr Fx Fy bx b2 (keepTo ls k) (kepTo ls k)) (fun i _ => k - (intOf i).toNat)
        case atStart => exact ⟨0, Nat.zero_le _, rfl, hL.out⟩
        case round =>
          obtain ⟨q, hq, rfl, hQ⟩ := hrel
          clear hL
          by_cases hlt : q < k
          · obtain ⟨ob, oo, ai, ci, rfl, c1, t1⟩ := h.out.at (k := q) (by rw [← en.out]; exact hlt)
            have c1' := (hQ.x.low.cell (block_lt_of_cell c1)).trans c1
            have t1' := t1.below hQ.x.low
            have hm := hin.out q hlt
            have hsq := hs.out q hlt
            have ch := lhas_st hQ.x.log _ _ t1' (by omega) (by have := lk.out; omega)
            rw [decide_eq_true hm] at ch
            clear hm hsq
            generalize (ls.getD q []).length = mq at *
            replace hQ := Lib.hid hQ
            replace c1 := Lib.hid c1
            replace t1 := Lib.hid t1
            replace t1' := Lib.hid t1'
            replace ch := Lib.hid ch
            go_wp2_with fail
            refine ch.out.mono ?_
            rintro e w2 ⟨rfl, B2⟩
            have Q2 := hQ.out.below B2
            replace Q2 := Lib.hid Q2
            replace B2 := Lib.hid B2
            go_wp2_with fail
            go_roundw
            case rel => exact ⟨q + 1, by omega, by go_num, Q2.out⟩
            case measure => simp [intOf]; omega
          · obtain rfl : q = k := by omega
            replace hQ := Lib.hid hQ
            go_wp2_with fail
            refine (al.out _).mono ?_
            rintro e w2 ⟨rfl, B2⟩
            have Q2 := hQ.out.below B2
            have cx := Lib.hid (lcount_any Q2.x.log)
            have cy := Lib.hid (lcount_any Q2.y.log)
            have low2 := Q2.x.low
            rw [hkk.out] at cx
            generalize (kepTo ls q).length = N at *
            replace Q2 := Lib.hid Q2
            replace low2 := Lib.hid low2
            replace B2 := Lib.hid B2
            go_wp2_with fail
            refine cx.out.mono ?_
            rintro e w3 ⟨rfl, rfl⟩
            go_wp2_with fail
            refine cy.out.mono ?_
            rintro e w3 ⟨rfl, rfl⟩
            go_wp2_with fail
            go_ret
            exact ⟨rfl, low2.out⟩
end Go.Proofs.Ytjbmdeppoobccaa
