/-
  The reference of layer 17: Slack, room, Admit, Remove. Condition: the blocks are its own.
-/
import Derived.Test.YtjhfoddhpmmjoaaDoorRefE
import Derived.Test.YtjhfoddhpmmjoaaDoorSums17
namespace Go.Proofs.YtjhfoddhpmmjoaaDoor
set_option maxRecDepth 100000
open Go.RowKit
/-- The reference's cells. -/
def QF (w : World) (b : Nat) (hd : Value) (T : Nat → Ten) : Prop := w.heap[b]? = some (.cells (qCells hd T) 60 (0, 0))
section
variable {w : World} {b : Nat} {p : Value} {T : Nat → Ten}
/-- One cell of a tenant turned. -/
theorem QF.set (h : QF w b p T) {t j : Nat} (ht : t < 9) (hj : j < 4) {x : Ten} {v : Value} (hv : v = tenF x j) (hs : ∀ k, k < 4 → k ≠ j → tenF x k = tenF (T t) k) : QF (w.setCell ⟨b, 1 + t * 4 + j, none⟩ v) b p (setT T t x) := by
  unfold QF
  rw [heap_setCell_same _ _ _ _ _ _ h]
  congr 2
  unfold qCells
  rw [List.setIfInBounds_toArray, show 1 + t * 4 + j = (4 * t + j) + 1 by omega, List.set_cons_succ]
  congr 2
  apply List.ext_getElem?
  intro i
  rw [List.getElem?_set, tensV_length]
  by_cases hi : i < 36
  · have e : i = 4 * (i / 4) + i % 4 := by omega
    have g1 := tensV_get T (t := i / 4) (j := i % 4) (by omega) (by omega)
    have g2 := tensV_get (setT T t x) (t := i / 4) (j := i % 4) (by omega) (by omega)
    rw [← e] at g1 g2
    rw [g1, g2]
    by_cases h1 : 4 * t + j = i
    · rw [if_pos h1, if_pos (by omega), show i / 4 = t by omega, show i % 4 = j by omega, setT_same, hv]
    · rw [if_neg h1]
      by_cases h2 : i / 4 = t
      · rw [h2, setT_same, hs _ (by omega) (by omega)]
      · rw [setT_other T x h2]
  · rw [if_neg (by omega), List.getElem?_eq_none (by rw [tensV_length]; omega), List.getElem?_eq_none (by rw [tensV_length]; omega)]
theorem QF.bump (h : QF w b p T) {t : Nat} (ht : t < 9) (k : Nat) : QF (w.setCell ⟨b, 1 + t * 4 + 3, none⟩ (.int .i64 (k : Int))) b p (setT T t ⟨(T t).on, (T t).r, (T t).q, k⟩) :=
  h.set ht (by decide) rfl (fun i hi h3 => by
    rcases (show i = 0 ∨ i = 1 ∨ i = 2 by omega) with rfl | rfl | rfl <;> rfl)
theorem QF.limR (h : QF w b p T) {t : Nat} (ht : t < 9) (k : Nat) : QF (w.setCell ⟨b, 1 + t * 4 + 1, none⟩ (.int .i64 (k : Int))) b p (setT T t ⟨(T t).on, k, (T t).q, (T t).c⟩) :=
  h.set ht (by decide) rfl (fun i hi h3 => by
    rcases (show i = 0 ∨ i = 2 ∨ i = 3 by omega) with rfl | rfl | rfl <;> rfl)
theorem QF.limQ (h : QF w b p T) {t : Nat} (ht : t < 9) (k : Nat) : QF (w.setCell ⟨b, 1 + t * 4 + 2, none⟩ (.int .i64 (k : Int))) b p (setT T t ⟨(T t).on, (T t).r, k, (T t).c⟩) :=
  h.set ht (by decide) rfl (fun i hi h3 => by
    rcases (show i = 0 ∨ i = 1 ∨ i = 3 by omega) with rfl | rfl | rfl <;> rfl)
/-- A tenant stored whole. -/
theorem QF.all (h : QF w b p T) {t : Nat} (ht : t < 9) (x : Ten) : QF (w.setCells b (1 + t * 4) (tenV x)) b p (setT T t x) := by
  have h0 := h.set (x := ⟨x.on, (T t).r, (T t).q, (T t).c⟩) ht (j := 0) (by decide) rfl (fun i hi h3 => by
    rcases (show i = 1 ∨ i = 2 ∨ i = 3 by omega) with rfl | rfl | rfl <;> rfl)
  have h1 := h0.limR ht x.r
  have h2 := h1.limQ ht x.q
  have h3 := h2.bump ht x.c
  simp only [setT_same, setT_twice] at h1 h2 h3
  exact h3
end
section
variable {w : World} {c cl n : Nat} {L : Nat → Nat} {T : Nat → Ten}
set_option maxHeartbeats 4000000 in
set_option maxRecDepth 100000 in
theorem qslack_any (h : RefE w c cl n L T) :
    Calls Tryd.prog 25 #[.pointer (some ⟨c, 0, none⟩)] w fun e w' => e = .returned (.int .i64 ((n : Int) - (sumA T 9 : Int))) ∧ Below w.heap.size w w' := by
  have c0 := h.l
  have g := h.good
  have hsm := h.small
  have B0 := Below.refl w.heap.size w
  replace h := Lib.hid h
  replace B0 := Lib.hid B0
  go_enter Tryd.func25, Tryd.ntmps25
  go_wp2_with fail
  go_loopw [4, 3] (fun tv nv wr => ∃ k : Nat, 1 ≤ k ∧ k ≤ 9 ∧ tv = .int .i64 (k : Int) ∧ nv = .int .i64 ((n : Int) - (sumA T k : Int)) ∧ Hid (RefE wr c cl n L T) ∧ Hid (Below w.heap.size w wr)) (fun tv _ _ => 9 - (intOf tv).toNat)
  case atStart =>
    refine ⟨1, by decide, by decide, rfl, ?_, h, B0⟩
    have z : sumA T 1 = 0 := by unfold sumA sumA; rw [g.zero]; rfl
    rw [z]; simp
  case round =>
    clear h B0 c0
    obtain ⟨k, k1, k9, rfl, rfl, h, B⟩ := hrel
    by_cases hk : k ≤ 8
    · have d1 : decide ((k : Int) ≤ 8) = true := decide_eq_true (by omega)
      have d2 : 0 ≤ (k : Int) ∧ (k : Int) < 9 := by omega
      have c1 := h.out.on (t := k) (by omega)
      have es : sumA T (k + 1) = sumA T k + (T k).part := rfl
      have hs1 := sumA_le T g.fits (show k + 1 ≤ 9 by omega)
      have tn := h.out.ten (t := k) (by omega)
      cases hon : (T k).on with
      | false =>
        rw [hon] at c1
        have ep : (T k).part = 0 := by unfold Ten.part; rw [if_neg (by rw [hon]; decide)]
        rw [ep, Nat.add_zero] at es
        replace h := Lib.hid h
        replace B := Lib.hid B
        replace es := Lib.hid es
        replace tn := Lib.hid tn
        replace hon := Lib.hid hon
        replace ep := Lib.hid ep
        replace hs1 := Lib.hid hs1
        go_wp2_with fail
        go_roundw
        case rel => exact ⟨k + 1, by omega, by omega, by go_num, by rw [es.out]; rfl, h, B⟩
        case measure => simp [intOf]; omega
      | true =>
        rw [hon] at c1
        have ep := part_on hon
        rw [ep] at es
        obtain ⟨p, hp⟩ : ∃ p, p = max (T k).r (T k).c := ⟨_, rfl⟩
        have cp := fun x => qpart_any x (T k)
        rw [← hp] at cp es
        have d3 : IntKind.i64.wrap ((n : Int) - (sumA T k : Int) - (p : Int)) = (n : Int) - (sumA T k : Int) - (p : Int) := IntWalk.i64_in _ (by omega)
        replace h := Lib.hid h
        replace B := Lib.hid B
        replace es := Lib.hid es
        replace tn := Lib.hid tn
        replace hon := Lib.hid hon
        replace ep := Lib.hid ep
        replace cp := Lib.hid cp
        replace hp := Lib.hid hp
        go_wp2_with (refine wpList_load_mid (by rfl) 57 (.tmp 26) rfl c (1 + k * 4) rfl (tenV (T k)) _ tn.out Tryd.underlying57 rfl (infoQTen (T k)) ?_)
        refine (cp.out _).mono ?_
        rintro e w2 ⟨rfl, B2⟩
        have h2 := h.out.below B2
        have B3 := B.out.trans (B2.mono B.out.size)
        clear h B B2 cp tn
        replace h2 := Lib.hid h2
        replace B3 := Lib.hid B3
        go_wp2_with fail
        go_roundw
        case rel => exact ⟨k + 1, by omega, by omega, by go_num, by rw [es.out]; go_num, h2, B3⟩
        case measure => simp [intOf]; omega
    · obtain rfl : k = 9 := by omega
      simp only [show ((9 : Nat) : Int) = 9 from rfl]
      go_wp2_with fail
      go_ret
      exact ⟨rfl, B.out⟩
/-- The reference's blocks. -/
def TwoQ (c cl : Nat) : Nat → Prop := fun k => k = c ∨ k = cl
/-- What a call of the reference says that changes a field. -/
def RSays (c cl n : Nat) (L : Nat → Nat) (T : Nat → Ten) (E : Int) (w : World) (e : Ending) (w' : World) : Prop :=
  e = .returned (.int .i64 E) ∧ RefE w' c cl n L T ∧ Upd (TwoQ c cl) w w'
theorem RefE.turn (h : RefE w c cl n L T) {w' : World} {L' : Nat → Nat} {T' : Nat → Ten} (hf : QF w' c (.slice (some ⟨cl, 0, none⟩) n n) T') (hi : w'.heap[cl]? = some (.cells (intsC (fun i => (L' i : Int)) n) 3 (0, 0))) (hg : Good n L' T') : RefE w' c cl n L' T' :=
  ⟨hf, hi, h.ne, hg, h.small, h.lo⟩
theorem two_c {w w' : World} {c cl : Nat} (hU : Upd (fun k => k = c) w w') : Upd (TwoQ c cl) w w' := hU.mono fun _ _ e => .inl e
theorem two_l {w w' : World} {c cl : Nat} (hU : Upd (fun k => k = cl) w w') : Upd (TwoQ c cl) w w' := hU.mono fun _ _ e => .inr e
theorem two_below {w w' : World} {c cl : Nat} (hB : Below w.heap.size w w') : Upd (TwoQ c cl) w w' := Upd.of_below hB
set_option maxHeartbeats 4000000 in
set_option maxRecDepth 100000 in
theorem qadmit_any (h : RefE w c cl n L T) (t r q : Int) :
    Calls Tryd.prog 53 #[.pointer (some ⟨c, 0, none⟩), .int .i64 t, .int .i64 r, .int .i64 q] w (RSays c cl n L (admitT n T t r q) (admitE n T t r q) w) := by
  have cy := Lib.hid (qwrong_any h t r q)
  have hga := h.good.admd t r q
  cases hb : badLim n t r q with
  | true =>
    rw [hb] at cy
    have eE : admitE n T t r q = 1 := by unfold admitE; rw [if_pos hb]
    have eT : admitT n T t r q = T := by unfold admitT; rw [if_neg (by rw [eE]; decide)]
    rw [eE, eT]
    replace h := Lib.hid h
    replace hga := Lib.hid hga
    replace eE := Lib.hid eE
    replace eT := Lib.hid eT
    replace hb := Lib.hid hb
    go_enter Tryd.func53, Tryd.ntmps53
    go_wp2_with fail
    refine cy.out.mono ?_
    rintro e _ ⟨rfl, rfl⟩
    go_wp2_with fail
    go_ret
    exact ⟨rfl, h.out, Upd.refl _ _⟩
  | false =>
    rw [hb] at cy
    obtain ⟨k, rn, qn, rfl, rfl, rfl, k1, k9, h3, h4⟩ := badLim_false hb
    have c1 := h.on k9
    have d9 : (k : Int) < 9 := by omega
    have eE : admitE n T (k : Int) (rn : Int) (qn : Int) = if (T k).on = true then 53 else if (n : Int) - (sumA T 9 : Int) < (rn : Int) then 61 else 0 := by
      unfold admitE; rw [if_neg (by rw [hb]; decide), Int.toNat_natCast]
    have eT : admitT n T (k : Int) (rn : Int) (qn : Int) = if admitE n T (k : Int) (rn : Int) (qn : Int) = 0 then setT T k ⟨true, rn, qn, 0⟩ else T := by
      unfold admitT; rw [Int.toNat_natCast, Int.toNat_natCast, Int.toNat_natCast]
    cases hon : (T k).on with
    | true =>
      rw [hon] at c1
      rw [hon, if_pos rfl] at eE
      rw [eE, if_neg (by decide)] at eT
      rw [eE, eT]
      replace h := Lib.hid h
      replace hga := Lib.hid hga
      replace eE := Lib.hid eE
      replace eT := Lib.hid eT
      replace hb := Lib.hid hb
      replace hon := Lib.hid hon
      go_enter Tryd.func53, Tryd.ntmps53
      go_wp2_with fail
      refine cy.out.mono ?_
      rintro e _ ⟨rfl, rfl⟩
      go_wp2_with fail
      go_ret
      exact ⟨rfl, h.out, Upd.refl _ _⟩
    | false =>
      rw [hon] at c1
      rw [hon, if_neg (by decide)] at eE
      have cs := Lib.hid (qslack_any h)
      by_cases hs : (n : Int) - (sumA T 9 : Int) < (rn : Int)
      · rw [if_pos hs] at eE
        rw [eE, if_neg (by decide)] at eT
        rw [eE, eT]
        have d1 : decide ((rn : Int) > (n : Int) - (sumA T 9 : Int)) = true := decide_eq_true (by omega)
        have d1' : decide ((n : Int) - (sumA T 9 : Int) < (rn : Int)) = true := decide_eq_true hs
        generalize sumA T 9 = S at *
        replace h := Lib.hid h
        replace hga := Lib.hid hga
        replace eE := Lib.hid eE
        replace eT := Lib.hid eT
        replace hb := Lib.hid hb
        replace hon := Lib.hid hon
        clear hs
        go_enter Tryd.func53, Tryd.ntmps53
        go_wp2_with fail
        refine cy.out.mono ?_
        rintro e _ ⟨rfl, rfl⟩
        go_wp2_with fail
        refine cs.out.mono ?_
        rintro e w1 ⟨rfl, B1⟩
        replace B1 := Lib.hid B1
        go_wp2_with fail
        go_ret
        exact ⟨rfl, h.out.below B1.out, two_below B1.out⟩
      · rw [if_neg hs] at eE
        rw [eE, if_pos rfl] at eT
        rw [eT] at hga
        rw [eE, eT]
        have d1 : decide ((rn : Int) > (n : Int) - (sumA T 9 : Int)) = false := decide_eq_false (by omega)
        have d1' : decide ((n : Int) - (sumA T 9 : Int) < (rn : Int)) = false := decide_eq_false hs
        generalize sumA T 9 = S at *
        replace h := Lib.hid h
        replace hga := Lib.hid hga
        replace eE := Lib.hid eE
        replace eT := Lib.hid eT
        replace hb := Lib.hid hb
        replace hon := Lib.hid hon
        clear hs
        go_enter Tryd.func53, Tryd.ntmps53
        go_wp2_with fail
        refine cy.out.mono ?_
        rintro e _ ⟨rfl, rfl⟩
        go_wp2_with fail
        refine cs.out.mono ?_
        rintro e w1 ⟨rfl, B1⟩
        have h1 := h.out.below B1
        have hf := QF.all (b := c) h1.f k9 ⟨true, rn, qn, 0⟩
        have u0 := h1.on k9
        have u1 := h1.r k9
        have u2 := h1.q k9
        have u3 := h1.chg k9
        have z0 := h1.frozen (1 + k * 4)
        have z1 := h1.frozen (1 + k * 4 + 1)
        have z2 := h1.frozen (1 + k * 4 + 2)
        have z3 := h1.frozen (1 + k * 4 + 3)
        replace B1 := Lib.hid B1
        replace h1 := Lib.hid h1
        replace hf := Lib.hid hf
        clear cy cs
        have hU := upd_cells (b := c) (tenV ⟨true, rn, qn, 0⟩) (1 + k * 4) w1
        have hF := h1.out.turn hf.out (hU.at h1.out.ints h1.out.ne.symm) hga.out
        have hV := (two_below (cl := cl) (c := c) B1.out).trans (two_c (cl := cl) hU) (fun _ _ h => h)
        replace hU := Lib.hid hU
        replace hF := Lib.hid hF
        replace hV := Lib.hid hV
        go_wp2_with fail
        go_ret
        exact ⟨rfl, hF.out, hV.out⟩
set_option maxHeartbeats 4000000 in
set_option maxRecDepth 100000 in
theorem qremove_any (h : RefE w c cl n L T) (t : Int) :
    Calls Tryd.prog 55 #[.pointer (some ⟨c, 0, none⟩), .int .i64 t] w (RSays c cl n L (removeT T t) (removeE T t) w) := by
  have cm := Lib.hid (qin_any h t)
  have hga := h.good.remove t
  cases hi : isIn T t with
  | false =>
    rw [hi] at cm
    have eE : removeE T t = 51 := by unfold removeE; rw [if_pos hi]
    have eT : removeT T t = T := by unfold removeT; rw [if_neg (by rw [eE]; decide)]
    rw [eE, eT]
    replace h := Lib.hid h
    replace hga := Lib.hid hga
    replace eE := Lib.hid eE
    replace eT := Lib.hid eT
    replace hi := Lib.hid hi
    go_enter Tryd.func55, Tryd.ntmps55
    go_wp2_with fail
    refine cm.out.mono ?_
    rintro e _ ⟨rfl, rfl⟩
    go_wp2_with fail
    go_ret
    exact ⟨rfl, h.out, Upd.refl _ _⟩
  | true =>
    rw [hi] at cm
    obtain ⟨k1, k8, ek, hon⟩ := isIn_pos hi
    have c3 := h.chg (t := t.toNat) (by omega)
    have k9 : t.toNat < 9 := by omega
    have eE : removeE T t = if (T t.toNat).c = 0 then 0 else 7 := by unfold removeE; rw [if_neg (by rw [hi]; decide)]
    have eT : removeT T t = if removeE T t = 0 then setT T t.toNat Ten.no else T := rfl
    have d0 : 0 ≤ t ∧ t < 9 := by omega
    generalize t.toNat = k at *
    subst ek
    by_cases hc : (T k).c = 0
    · rw [if_pos hc] at eE
      rw [eE, if_pos rfl] at eT
      rw [eT] at hga
      rw [eE, eT]
      rw [hc, show ((0 : Nat) : Int) = 0 from rfl] at c3
      have hf := QF.all (b := c) h.f k9 Ten.no
      have u0 := h.on k9
      have u1 := h.r k9
      have u2 := h.q k9
      have z0 := h.frozen (1 + k * 4)
      have z1 := h.frozen (1 + k * 4 + 1)
      have z2 := h.frozen (1 + k * 4 + 2)
      have z3 := h.frozen (1 + k * 4 + 3)
      have hU := upd_cells (b := c) (tenV Ten.no) (1 + k * 4) w
      have hF := h.turn hf (hU.at h.ints h.ne.symm) hga
      have hV := two_c (cl := cl) hU
      clear hc
      replace h := Lib.hid h
      replace hga := Lib.hid hga
      replace eE := Lib.hid eE
      replace eT := Lib.hid eT
      replace hi := Lib.hid hi
      replace hon := Lib.hid hon
      replace hf := Lib.hid hf
      replace hU := Lib.hid hU
      replace hF := Lib.hid hF
      replace hV := Lib.hid hV
      go_enter Tryd.func55, Tryd.ntmps55
      go_wp2_with fail
      refine cm.out.mono ?_
      rintro e _ ⟨rfl, rfl⟩
      go_wp2_with fail
      go_ret
      exact ⟨rfl, hF.out, hV.out⟩
    · rw [if_neg hc] at eE
      rw [eE, if_neg (by decide)] at eT
      rw [eE, eT]
      have d1 : decide (((T k).c : Int) > 0) = true := decide_eq_true (by omega)
      have d1' : 0 < (T k).c := by omega
      replace h := Lib.hid h
      replace hga := Lib.hid hga
      replace eE := Lib.hid eE
      replace eT := Lib.hid eT
      replace hi := Lib.hid hi
      replace hon := Lib.hid hon
      go_enter Tryd.func55, Tryd.ntmps55
      go_wp2_with fail
      refine cm.out.mono ?_
      rintro e _ ⟨rfl, rfl⟩
      go_wp2_with fail
      go_ret
      exact ⟨rfl, h.out, Upd.refl _ _⟩
end
end Go.Proofs.YtjhfoddhpmmjoaaDoor
