/-
  extent: New, Admit, Resize, Remove. Condition: the field's blocks are its own.
-/
import Derived.Test.YtjhfoddhpmmjoaaDoorQExtRead
namespace Go.Proofs.YtjhfoddhpmmjoaaDoor
set_option maxRecDepth 100000
open Go.RowKit

/-- The blocks of a field. -/
def Four (b rb rw rm : Nat) : Nat → Prop := fun k => k = b ∨ Three rb rw rm k
/-- What a call says that changes a field. -/
def FieldSays (b rb rw rm n m : Nat) (L : Nat → Nat) (T : Nat → Ten) (E : Int) (w : World) (e : Ending) (w' : World) : Prop :=
  e = .returned (.int .i64 E) ∧ FieldAt w' b rb rw rm n m L T ∧ Upd (Four b rb rw rm) w w'
theorem FieldAt.mono {w : World} {b rb rw rm n m m' : Nat} {L : Nat → Nat} {T : Nat → Ten} (h : FieldAt w b rb rw rm n m L T) (hm : m ≤ m') : FieldAt w b rb rw rm n m' L T := ⟨h.f, h.r.mono hm, h.ne, h.good, h.small⟩
set_option maxRecDepth 100000 in
theorem enew_bad (w : World) (n : Int) (h : n < 1 ∨ 2048 < n) :
    Calls Tryd.prog 22 #[.int .i64 n] w fun e w' => e = .returned (.tuple #[.pointer none, .int .i64 1]) ∧ w = w' := by
  have dd : decide (n < 1) = true ∨ (decide (n < 1) = false ∧ decide (n > 2048) = true) := by
    simp only [decide_eq_true_eq, decide_eq_false_iff_not]; omega
  rcases dd with d1 | ⟨d1, d2⟩
  · go_enter Tryd.func22, Tryd.ntmps22
    go_wp2_with fail
    go_ret2
    exact ⟨rfl, rfl⟩
  · go_enter Tryd.func22, Tryd.ntmps22
    go_wp2_with fail
    go_ret2
    exact ⟨rfl, rfl⟩
set_option maxRecDepth 100000 in
theorem enew_ok (w : World) (n : Nat) (h1 : 1 ≤ n) (h2 : n ≤ 2048) :
    Calls Tryd.prog 22 #[.int .i64 (n : Int)] w fun e w' => ∃ b rb rw rm, w.heap.size ≤ b ∧ w.heap.size ≤ rb ∧ w.heap.size ≤ rw ∧ w.heap.size ≤ rm ∧ e = .returned (.tuple #[.pointer (some ⟨b, 0, none⟩), .int .i64 0]) ∧ FieldAt w' b rb rw rm n 0 (fun _ => 0) (fun _ => Ten.no) ∧ Below w.heap.size w w' := by
  have cb := Lib.hid (bnew_ok n w h1 (by omega))
  have d1 : decide ((n : Int) < 1) = false := decide_eq_false (by omega)
  have d2 : decide ((n : Int) > 2048) = false := decide_eq_false (by omega)
  have bf := Lib.hid (fun p => built_field p)
  go_enter Tryd.func22, Tryd.ntmps22
  go_wp2_with fail
  refine cb.out.mono ?_
  rintro e w1 ⟨rb, rw_, rm, g1, g2, g3, rfl, hr, B1⟩
  clear cb
  replace g1 := Lib.hid g1
  replace g2 := Lib.hid g2
  replace g3 := Lib.hid g3
  replace hr := Lib.hid hr
  replace B1 := Lib.hid B1
  have hF : FieldAt (w1.alloc (.cells (fieldCells (some ⟨rb, 0, none⟩) (fun _ => Ten.no)) 68)) w1.heap.size rb rw_ rm n 0 (fun _ => 0) (fun _ => Ten.no) :=
    ⟨heap_alloc_new _ _, hr.out.stay (S := fun _ => False) ((Upd.refl _ _).alloc _) id id id, ⟨by have := lt_of_block hr.out.row; omega, by have := lt_of_block hr.out.words; omega, by obtain ⟨D, hD, _⟩ := hr.out.map; have := hD.lt; omega⟩, Good.begin n, h2⟩
  have hB := B1.out.alloc B1.out.size (.cells (fieldCells (some ⟨rb, 0, none⟩) (fun _ => Ten.no)) 68)
  replace hF := Lib.hid hF
  replace hB := Lib.hid hB
  go_wp2_with fail
  go_ret2
  exact ⟨w1.heap.size, rb, rw_, rm, B1.out.size, g1.out, g2.out, g3.out, rfl, hF.out, hB.out⟩
section
variable {w : World} {b rb rw rm n m : Nat} {L : Nat → Nat} {T : Nat → Ten}
/-- A field whose tenants alone turn. -/
theorem FieldAt.turn (h : FieldAt w b rb rw rm n m L T) {w' : World} {T' : Nat → Ten} (hf : FieldB w' b (some ⟨rb, 0, none⟩) T') (hU : Upd (fun k => k = b) w w') (hg : Good n L T') : FieldAt w' b rb rw rm n m L T' :=
  ⟨hf, h.r.stay hU (fun e => h.ne.1 e.symm) (fun e => h.ne.2.1 e.symm) (fun e => h.ne.2.2 e.symm), h.ne, hg, h.small⟩
theorem upd_four {w w' : World} {b rb rw rm : Nat} (hU : Upd (fun k => k = b) w w') : Upd (Four b rb rw rm) w w' := hU.mono fun _ _ e => .inl e
theorem four_below {w w' : World} {b rb rw rm : Nat} (hB : Below w.heap.size w w') : Upd (Four b rb rw rm) w w' := Upd.of_below hB
theorem badLim_false {n : Nat} {t r q : Int} (h : badLim n t r q = false) : ∃ k rn qn : Nat, t = (k : Int) ∧ r = (rn : Int) ∧ q = (qn : Int) ∧ 1 ≤ k ∧ k < 9 ∧ rn ≤ qn ∧ qn ≤ n := by
  unfold badLim at h
  rw [decide_eq_false_iff_not] at h
  exact ⟨t.toNat, r.toNat, q.toNat, by omega, by omega, by omega, by omega, by omega, by omega, by omega⟩
theorem upd_cells {b : Nat} : ∀ (vs : List Value) (o : Nat) (w : World), Upd (fun k => k = b) w (w.setCells b o vs)
  | [], _, _ => Upd.refl _ _
  | v :: r, o, w => ((Upd.refl (fun k => k = b) w).setCell ⟨b, o, none⟩ v (fun _ => rfl)).trans (upd_cells r (o + 1) _) (fun _ _ h => h)
set_option maxHeartbeats 4000000 in
set_option maxRecDepth 100000 in
theorem eadmit_any (h : FieldAt w b rb rw rm n m L T) (t r q : Int) :
    Calls Tryd.prog 13 #[.pointer (some ⟨b, 0, none⟩), .int .i64 t, .int .i64 r, .int .i64 q] w (FieldSays b rb rw rm n m L (admitT n T t r q) (admitE n T t r q) w) := by
  have cy := Lib.hid (emay_any h t r q)
  have hga := h.good.admd t r q
  cases hb : badLim n t r q with
  | true =>
    rw [hb, if_pos rfl] at cy
    have eE : admitE n T t r q = 1 := by unfold admitE; rw [if_pos hb]
    have eT : admitT n T t r q = T := by unfold admitT; rw [if_neg (by rw [eE]; decide)]
    rw [eE, eT]
    replace h := Lib.hid h
    replace hga := Lib.hid hga
    replace eE := Lib.hid eE
    replace eT := Lib.hid eT
    replace hb := Lib.hid hb
    go_enter Tryd.func13, Tryd.ntmps13
    go_wp2_with fail
    refine cy.out.mono ?_
    rintro e _ ⟨rfl, rfl⟩
    go_wp2_with fail
    go_ret
    exact ⟨rfl, h.out, Upd.refl _ _⟩
  | false =>
    rw [hb, if_neg (by decide)] at cy
    obtain ⟨k, rn, qn, rfl, rfl, rfl, k1, k9, h3, h4⟩ := badLim_false hb
    have c1 := h.f.on k9
    have d9 : (k : Int) < 9 := by omega
    have eE : admitE n T (k : Int) (rn : Int) (qn : Int) = if (T k).on = true then 53 else if (n : Int) - (sumA T 9 : Int) < (rn : Int) then 61 else 0 := by
      unfold admitE; rw [if_neg (by rw [hb]; decide), Int.toNat_natCast]
    have eT : admitT n T (k : Int) (rn : Int) (qn : Int) = if admitE n T (k : Int) (rn : Int) (qn : Int) = 0 then setT T k ⟨true, rn, qn, 0⟩ else T := by
      unfold admitT; rw [Int.toNat_natCast, Int.toNat_natCast, Int.toNat_natCast]
    cases hon : (T k).on with
    | true =>
      rw [hon] at c1
      rw [hon, if_pos rfl] at eE
      rw [eE, if_neg (by decide)] at eT
      rw [eE, eT]
      replace h := Lib.hid h
      replace hga := Lib.hid hga
      replace eE := Lib.hid eE
      replace eT := Lib.hid eT
      replace hb := Lib.hid hb
      replace hon := Lib.hid hon
      go_enter Tryd.func13, Tryd.ntmps13
      go_wp2_with fail
      refine cy.out.mono ?_
      rintro e _ ⟨rfl, rfl⟩
      go_wp2_with fail
      go_ret
      exact ⟨rfl, h.out, Upd.refl _ _⟩
    | false =>
      rw [hon] at c1
      rw [hon, if_neg (by decide)] at eE
      have cs := Lib.hid (eslack_any h)
      by_cases hs : (n : Int) - (sumA T 9 : Int) < (rn : Int)
      · rw [if_pos hs] at eE
        rw [eE, if_neg (by decide)] at eT
        rw [eE, eT]
        have d1 : decide ((rn : Int) > (n : Int) - (sumA T 9 : Int)) = true := decide_eq_true (by omega)
        have d1' : decide ((n : Int) - (sumA T 9 : Int) < (rn : Int)) = true := decide_eq_true hs
        generalize sumA T 9 = S at *
        replace h := Lib.hid h
        replace hga := Lib.hid hga
        replace eE := Lib.hid eE
        replace eT := Lib.hid eT
        replace hb := Lib.hid hb
        replace hon := Lib.hid hon
        clear hs
        go_enter Tryd.func13, Tryd.ntmps13
        go_wp2_with fail
        refine cy.out.mono ?_
        rintro e _ ⟨rfl, rfl⟩
        go_wp2_with fail
        refine cs.out.mono ?_
        rintro e w1 ⟨rfl, B1⟩
        replace B1 := Lib.hid B1
        go_wp2_with fail
        go_ret
        exact ⟨rfl, h.out.below B1.out, four_below B1.out⟩
      · rw [if_neg hs] at eE
        rw [eE, if_pos rfl] at eT
        rw [eT] at hga
        rw [eE, eT]
        have d1 : decide ((rn : Int) > (n : Int) - (sumA T 9 : Int)) = false := decide_eq_false (by omega)
        have d1' : decide ((n : Int) - (sumA T 9 : Int) < (rn : Int)) = false := decide_eq_false hs
        generalize sumA T 9 = S at *
        replace h := Lib.hid h
        replace hga := Lib.hid hga
        replace eE := Lib.hid eE
        replace eT := Lib.hid eT
        replace hb := Lib.hid hb
        replace hon := Lib.hid hon
        clear hs
        go_enter Tryd.func13, Tryd.ntmps13
        go_wp2_with fail
        refine cy.out.mono ?_
        rintro e _ ⟨rfl, rfl⟩
        go_wp2_with fail
        refine cs.out.mono ?_
        rintro e w1 ⟨rfl, B1⟩
        have h1 := h.out.below B1
        have hf := h1.f.all k9 ⟨true, rn, qn, 0⟩
        have u0 := h1.f.on k9
        have u1 := h1.f.r k9
        have u2 := h1.f.q k9
        have u3 := h1.f.c k9
        have z0 := h1.f.frozen (1 + k * 4)
        have z1 := h1.f.frozen (1 + k * 4 + 1)
        have z2 := h1.f.frozen (1 + k * 4 + 2)
        have z3 := h1.f.frozen (1 + k * 4 + 3)
        replace B1 := Lib.hid B1
        replace h1 := Lib.hid h1
        replace hf := Lib.hid hf
        clear cy cs
        have hU := upd_cells (b := b) (tenV ⟨true, rn, qn, 0⟩) (1 + k * 4) w1
        have hF := h1.out.turn hf.out hU hga.out
        have hV := (four_below (rb := rb) (rw := rw) (rm := rm) (b := b) B1.out).trans (upd_four hU) (fun _ _ h => h)
        replace hU := Lib.hid hU
        replace hF := Lib.hid hF
        replace hV := Lib.hid hV
        go_wp2_with fail
        go_ret
        exact ⟨rfl, hF.out, hV.out⟩
set_option maxHeartbeats 4000000 in
set_option maxRecDepth 100000 in
theorem eremove_any (h : FieldAt w b rb rw rm n m L T) (t : Int) :
    Calls Tryd.prog 29 #[.pointer (some ⟨b, 0, none⟩), .int .i64 t] w (FieldSays b rb rw rm n m L (removeT T t) (removeE T t) w) := by
  have cm := Lib.hid (emade_any h)
  have hga := h.good.remove t
  cases hi : isIn T t with
  | false =>
    have eE : removeE T t = 51 := by unfold removeE; rw [if_pos hi]
    have eT : removeT T t = T := by unfold removeT; rw [if_neg (by rw [eE]; decide)]
    rw [eE, eT]
    have ca := Lib.hid (eat_no h t hi)
    replace h := Lib.hid h
    replace hga := Lib.hid hga
    replace eE := Lib.hid eE
    replace eT := Lib.hid eT
    replace hi := Lib.hid hi
    go_enter Tryd.func29, Tryd.ntmps29
    go_wp2_with fail
    refine ca.out.mono ?_
    rintro e _ ⟨rfl, rfl⟩
    go_wp2_with fail
    refine cm.out.mono ?_
    rintro e _ ⟨rfl, rfl⟩
    go_wp2_with fail
    go_ret
    exact ⟨rfl, h.out, Upd.refl _ _⟩
  | true =>
    obtain ⟨k1, k8, ek, hon⟩ := isIn_pos hi
    have ca := eat_ok h t.toNat k1 (by omega) hon
    have c3 := h.f.c (t := t.toNat) (by omega)
    have k9 : t.toNat < 9 := by omega
    have eE : removeE T t = if (T t.toNat).c = 0 then 0 else 7 := by unfold removeE; rw [if_neg (by rw [hi]; decide)]
    have eT : removeT T t = if removeE T t = 0 then setT T t.toNat Ten.no else T := rfl
    rw [ek] at ca
    generalize t.toNat = k at *
    by_cases hc : (T k).c = 0
    · rw [if_pos hc] at eE
      rw [eE, if_pos rfl] at eT
      rw [eT] at hga
      rw [eE, eT]
      rw [hc, show ((0 : Nat) : Int) = 0 from rfl] at c3
      have hf := h.f.all k9 Ten.no
      have u0 := h.f.on k9
      have u1 := h.f.r k9
      have u2 := h.f.q k9
      have z0 := h.f.frozen (1 + k * 4)
      have z1 := h.f.frozen (1 + k * 4 + 1)
      have z2 := h.f.frozen (1 + k * 4 + 2)
      have z3 := h.f.frozen (1 + k * 4 + 3)
      have hU := upd_cells (b := b) (tenV Ten.no) (1 + k * 4) w
      have hF := h.turn hf hU hga
      have hV := upd_four (rb := rb) (rw := rw) (rm := rm) hU
      clear hc
      replace h := Lib.hid h
      replace hga := Lib.hid hga
      replace eE := Lib.hid eE
      replace eT := Lib.hid eT
      replace hi := Lib.hid hi
      replace hon := Lib.hid hon
      replace ek := Lib.hid ek
      replace ca := Lib.hid ca
      replace hf := Lib.hid hf
      replace hU := Lib.hid hU
      replace hF := Lib.hid hF
      replace hV := Lib.hid hV
      go_enter Tryd.func29, Tryd.ntmps29
      go_wp2_with fail
      refine ca.out.mono ?_
      rintro e _ ⟨rfl, rfl⟩
      go_wp2_with fail
      refine cm.out.mono ?_
      rintro e _ ⟨rfl, rfl⟩
      go_wp2_with fail
      go_ret
      exact ⟨rfl, hF.out, hV.out⟩
    · rw [if_neg hc] at eE
      rw [eE, if_neg (by decide)] at eT
      rw [eE, eT]
      have d1 : (((T k).c : Int) == 0) = false := beq_eq_false_iff_ne.2 (by omega)
      have d2 : (((T k).c : Int) != 0) = true := by rw [bne, d1]; rfl
      replace h := Lib.hid h
      replace hga := Lib.hid hga
      replace eE := Lib.hid eE
      replace eT := Lib.hid eT
      replace hi := Lib.hid hi
      replace hon := Lib.hid hon
      replace ek := Lib.hid ek
      replace ca := Lib.hid ca
      go_enter Tryd.func29, Tryd.ntmps29
      go_wp2_with fail
      refine ca.out.mono ?_
      rintro e _ ⟨rfl, rfl⟩
      go_wp2_with fail
      refine cm.out.mono ?_
      rintro e _ ⟨rfl, rfl⟩
      go_wp2_with fail
      go_ret
      exact ⟨rfl, h.out, Upd.refl _ _⟩
end
end Go.Proofs.YtjhfoddhpmmjoaaDoor
