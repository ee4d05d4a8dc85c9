/-
  extent: Claim, Drop. Condition: the field's blocks are its own.
  Layer 17: 'alive'. The table of math/bits stands in the world: the one condition.
-/
import Derived.Test.YtjhfoddhpmmjoaaDoorQExtTake
namespace Go.Proofs.YtjhfoddhpmmjoaaDoor
set_option maxRecDepth 100000
open Go.RowKit

section
variable {w : World} {b rb rw rm n m : Nat} {L : Nat → Nat} {T : Nat → Ten}
theorem FieldAt.fb (h : FieldAt w b rb rw rm n m L T) {w2 : World} (U2 : Upd (Three rb rw rm) w w2) : FieldB w2 b (some ⟨rb, 0, none⟩) T :=
  h.f.other (U2.block _ h.f.lt fun e => e.elim (fun e => h.ne.1 e) (fun e => e.elim (fun e => h.ne.2.1 e) (fun e => h.ne.2.2 e)))
/-- A field of which one tenant's charge and one place turn. -/
theorem FieldAt.both (h : FieldAt w b rb rw rm n m L T) {w2 w3 : World} {m' : Nat} {L' : Nat → Nat} {T' : Nat → Ten} (hr : RowAt w2 rb rw rm n m' L') (hf : FieldB w3 b (some ⟨rb, 0, none⟩) T') (hU : Upd (fun k => k = b) w2 w3) (hg : Good n L' T') : FieldAt w3 b rb rw rm n m' L' T' :=
  ⟨hf, hr.stay hU (fun e => h.ne.1 e.symm) (fun e => h.ne.2.1 e.symm) (fun e => h.ne.2.2 e.symm), h.ne, hg, h.small⟩
set_option maxHeartbeats 4000000 in
set_option maxRecDepth 100000 in
theorem eclaim_any (h : FieldAt w b rb rw rm n m L T) (hm : m < 1000000000) (t : Int) (x : Nat) (hx : x < 4294967296) :
    Calls Tryd.prog 30 #[.pointer (some ⟨b, 0, none⟩), .int .i64 t, .int .u32 (x : Int)] w (FieldSays b rb rw rm n (m + 1) (claimL n L T t x) (claimT n L T t x) (claimE n L T t x) w) := by
  have ch := Lib.hid (ethere_any h x hx)
  have hga := h.good.claim t x
  by_cases hn : n ≤ x
  · have eE : claimE n L T t x = 1 := by unfold claimE; rw [if_pos hn]
    have eL : claimL n L T t x = L := by unfold claimL; rw [if_neg (by rw [eE]; decide)]
    have eT : claimT n L T t x = T := by unfold claimT; rw [if_neg (fun e => by rw [eE] at e; omega)]
    rw [eE, eL, eT]
    rw [if_pos hn] at ch
    replace h := Lib.hid h
    replace hga := Lib.hid hga
    replace eE := Lib.hid eE
    replace eL := Lib.hid eL
    replace eT := Lib.hid eT
    clear hn
    go_enter Tryd.func30, Tryd.ntmps30
    go_wp2_with fail
    refine ch.out.mono ?_
    rintro e _ ⟨rfl, rfl⟩
    go_wp2_with fail
    go_ret
    exact ⟨rfl, h.out.mono (by omega), Upd.refl _ _⟩
  · rw [if_neg hn] at ch
    cases hi : isIn T t with
    | false =>
      have eE : claimE n L T t x = 51 := by unfold claimE; rw [if_neg hn, if_pos hi]
      have eL : claimL n L T t x = L := by unfold claimL; rw [if_neg (by rw [eE]; decide)]
      have eT : claimT n L T t x = T := by unfold claimT; rw [if_neg (fun e => by rw [eE] at e; omega)]
      rw [eE, eL, eT]
      have ca := Lib.hid (eat_no h t hi)
      replace h := Lib.hid h
      replace hga := Lib.hid hga
      replace eE := Lib.hid eE
      replace eL := Lib.hid eL
      replace eT := Lib.hid eT
      replace hi := Lib.hid hi
      clear hn
      go_enter Tryd.func30, Tryd.ntmps30
      go_wp2_with fail
      refine ch.out.mono ?_
      rintro e _ ⟨rfl, rfl⟩
      go_wp2_with fail
      refine ca.out.mono ?_
      rintro e _ ⟨rfl, rfl⟩
      go_wp2_with fail
      go_ret
      exact ⟨rfl, h.out.mono (by omega), Upd.refl _ _⟩
    | true =>
      obtain ⟨k1, k8, ek, hon⟩ := isIn_pos hi
      have ca := eat_ok h t.toNat k1 (by omega) hon
      have k9 : t.toNat < 9 := by omega
      rw [ek] at ca
      have ct := etimes_any h x hx
      rw [timesI_lt (by omega)] at ct
      have c0 := h.f.row
      by_cases h0 : 0 < L x
      · have eE : claimE n L T t x = holdRes n L (x : Int) := by unfold claimE; rw [if_neg hn, if_neg (by rw [hi]; decide), if_pos h0]
        have eL : claimL n L T t x = holdL n L (x : Int) := by unfold claimL; rw [eE, holdL_lt (by omega)]
        have eT : claimT n L T t x = T := by unfold claimT; rw [if_neg (fun e => by omega)]
        rw [eL, eT] at hga
        rw [eE, eL, eT]
        have cr := Lib.hid (hold_any h.r (by omega) (x : Int))
        have d1 : decide ((L x : Int) > 0) = true := decide_eq_true (by omega)
        have d2 : decide (0 < L x) = true := decide_eq_true h0
        generalize L x = lx at *
        generalize t.toNat = k at *
        replace h := Lib.hid h
        replace hga := Lib.hid hga
        replace eE := Lib.hid eE
        replace eL := Lib.hid eL
        replace eT := Lib.hid eT
        replace hi := Lib.hid hi
        replace ct := Lib.hid ct
        replace ca := Lib.hid ca
        replace hon := Lib.hid hon
        replace ek := Lib.hid ek
        clear hn h0
        go_enter Tryd.func30, Tryd.ntmps30
        go_wp2_with fail
        refine ch.out.mono ?_
        rintro e _ ⟨rfl, rfl⟩
        go_wp2_with fail
        refine ca.out.mono ?_
        rintro e _ ⟨rfl, rfl⟩
        go_wp2_with fail
        refine ct.out.mono ?_
        rintro e _ ⟨rfl, rfl⟩
        go_wp2_with fail
        refine cr.out.mono ?_
        rintro e w1 ⟨rfl, R1, U1⟩
        have h1 := h.out.rows R1 U1 rfl hga.out
        have hV := four_three (b := b) U1
        clear R1 U1
        replace h1 := Lib.hid h1
        replace hV := Lib.hid hV
        go_wp2_with fail
        go_ret
        exact ⟨rfl, h1.out, hV.out⟩
      · have hL0 : L x = 0 := by omega
        have eE : claimE n L T t x = roomE n T (T t.toNat) := by unfold claimE; rw [if_neg hn, if_neg (by rw [hi]; decide), if_neg h0]
        have cm := eroom_any h t.toNat (by omega)
        rw [hL0, show ((0 : Nat) : Int) = 0 from rfl] at ct
        by_cases hR : roomE n T (T t.toNat) = 0
        · have eE0 : claimE n L T t x = 0 := eE.trans hR
          have eL : claimL n L T t x = up L x 1 := by unfold claimL; rw [if_pos eE0, hL0]
          have eT : claimT n L T t x = bumpT T t.toNat := by unfold claimT; rw [if_pos ⟨eE0, hL0⟩]
          rw [eL, eT] at hga
          rw [eE0, eL, eT]
          rw [hR] at cm
          have e1 : holdRes n L (x : Int) = 0 := by rw [holdRes_lt (by omega), if_neg (by omega)]
          have e2 : holdL n L (x : Int) = up L x 1 := by rw [holdL_lt (by omega), if_pos e1, hL0]
          have hcl := (h.good.lim t.toNat)
          have hsm := h.small
          generalize t.toNat = k at *
          replace h := Lib.hid h
          replace hga := Lib.hid hga
          replace eE := Lib.hid eE
          replace eE0 := Lib.hid eE0
          replace eL := Lib.hid eL
          replace eT := Lib.hid eT
          replace hi := Lib.hid hi
          replace ct := Lib.hid ct
          replace ca := Lib.hid ca
          replace hon := Lib.hid hon
          replace ek := Lib.hid ek
          replace cm := Lib.hid cm
          replace hR := Lib.hid hR
          replace e1 := Lib.hid e1
          replace e2 := Lib.hid e2
          clear hn h0 hL0
          go_enter Tryd.func30, Tryd.ntmps30
          go_wp2_with fail
          refine ch.out.mono ?_
          rintro e _ ⟨rfl, rfl⟩
          go_wp2_with fail
          refine ca.out.mono ?_
          rintro e _ ⟨rfl, rfl⟩
          go_wp2_with fail
          refine ct.out.mono ?_
          rintro e _ ⟨rfl, rfl⟩
          go_wp2_with fail
          refine cm.out.mono ?_
          rintro e w1 ⟨rfl, B1⟩
          have h1 := h.out.below B1
          have c3 := h1.f.c k9
          have z3 := h1.f.frozen (1 + k * 4 + 3)
          have F3 := h1.f.bump k9 ((T k).c + 1)
          have hc1 : ((((T k).c + 1 : Nat)) : Int) = ((T k).c : Int) + 1 := by omega
          rw [hc1] at F3
          have hcb : (T k).c ≤ 2048 := by omega
          have hU : Upd (fun k => k = b) w1 (w1.setCell ⟨b, 1 + k * 4 + 3, none⟩ (.int .i64 (((T k).c : Int) + 1))) := (Upd.refl (fun k => k = b) w1).setCell ⟨b, 1 + k * 4 + 3, none⟩ _ (fun _ => rfl)
          have R3 := h1.r.stay hU (fun e => h1.ne.1 e.symm) (fun e => h1.ne.2.1 e.symm) (fun e => h1.ne.2.2 e.symm)
          have V3 := (four_below (rb := rb) (rw := rw) (rm := rm) (b := b) B1).trans (upd_four hU) (fun _ _ h => h)
          have c00 := F3.row
          have hne := h1.ne
          clear hU hc1 hcl B1 ca ct cm ch c0
          replace F3 := Lib.hid F3
          replace R3 := Lib.hid R3
          replace V3 := Lib.hid V3
          replace hne := Lib.hid hne
          replace h1 := Lib.hid h1
          go_wp2_with fail
          refine (hold_any R3.out (by omega) (x : Int)).mono ?_
          rintro e w4 ⟨rfl, R4, U4⟩
          rw [e1.out]
          rw [e2.out] at R4
          have F4 : FieldB w4 b (some ⟨rb, 0, none⟩) _ := F3.out.other (U4.block _ F3.out.lt fun e => e.elim (fun e => hne.out.1 e) (fun e => e.elim (fun e => hne.out.2.1 e) (fun e => hne.out.2.2 e)))
          have h4 : FieldAt w4 b rb rw rm n (m + 1) (up L x 1) (bumpT T k) := ⟨F4, R4, hne.out, hga.out, hsm⟩
          have V4 := V3.out.trans (four_three U4) (fun _ _ h => h)
          clear F4 R4 U4
          replace h4 := Lib.hid h4
          replace V4 := Lib.hid V4
          go_wp2_with fail
          go_ret
          exact ⟨rfl, h4.out, V4.out⟩
        · have eL : claimL n L T t x = L := by unfold claimL; rw [if_neg (by rw [eE]; exact hR)]
          have eT : claimT n L T t x = T := by unfold claimT; rw [if_neg (fun e => hR (eE ▸ e.1))]
          rw [eE, eL, eT]
          generalize roomE n T (T t.toNat) = E at *
          have d1 : (E == 0) = false := beq_eq_false_iff_ne.2 hR
          have d2 : (E != 0) = true := by rw [bne, d1]; rfl
          generalize t.toNat = k at *
          replace h := Lib.hid h
          replace hga := Lib.hid hga
          replace eE := Lib.hid eE
          replace eL := Lib.hid eL
          replace eT := Lib.hid eT
          replace hi := Lib.hid hi
          replace ct := Lib.hid ct
          replace ca := Lib.hid ca
          replace hon := Lib.hid hon
          replace ek := Lib.hid ek
          replace cm := Lib.hid cm
          clear hn h0 hL0
          go_enter Tryd.func30, Tryd.ntmps30
          go_wp2_with fail
          refine ch.out.mono ?_
          rintro e _ ⟨rfl, rfl⟩
          go_wp2_with fail
          refine ca.out.mono ?_
          rintro e _ ⟨rfl, rfl⟩
          go_wp2_with fail
          refine ct.out.mono ?_
          rintro e _ ⟨rfl, rfl⟩
          go_wp2_with fail
          refine cm.out.mono ?_
          rintro e w1 ⟨rfl, B1⟩
          have h1 := h.out.below B1
          have V1 := four_below (rb := rb) (rw := rw) (rm := rm) (b := b) B1
          clear B1
          replace h1 := Lib.hid h1
          replace V1 := Lib.hid V1
          go_wp2_with fail
          go_ret
          exact ⟨rfl, h1.out.mono (by omega), V1.out⟩
set_option maxHeartbeats 4000000 in
set_option maxRecDepth 100000 in
theorem edrop_any (h : FieldAt w b rb rw rm n m L T) (hm : m < 1000000000) (t : Int) (x : Nat) (hx : x < 4294967296) :
    Calls Tryd.prog 15 #[.pointer (some ⟨b, 0, none⟩), .int .i64 t, .int .u32 (x : Int)] w (FieldSays b rb rw rm n (m + 1) (dropL1 n L T t x) (dropT n L T t x) (dropE n L T t x) w) := by
  have ch := Lib.hid (ethere_any h x hx)
  have hga := h.good.drop t x
  by_cases hn : n ≤ x
  · have eE : dropE n L T t x = 1 := by unfold dropE; rw [if_pos hn]
    have eL : dropL1 n L T t x = L := by unfold dropL1; rw [if_neg (by rw [eE]; decide)]
    have eT : dropT n L T t x = T := by unfold dropT; rw [if_neg (fun e => by rw [eE] at e; omega)]
    rw [eE, eL, eT]
    rw [if_pos hn] at ch
    replace h := Lib.hid h
    replace hga := Lib.hid hga
    replace eE := Lib.hid eE
    replace eL := Lib.hid eL
    replace eT := Lib.hid eT
    clear hn
    go_enter Tryd.func15, Tryd.ntmps15
    go_wp2_with fail
    refine ch.out.mono ?_
    rintro e _ ⟨rfl, rfl⟩
    go_wp2_with fail
    go_ret
    exact ⟨rfl, h.out.mono (by omega), Upd.refl _ _⟩
  · rw [if_neg hn] at ch
    cases hi : isIn T t with
    | false =>
      have eE : dropE n L T t x = 51 := by unfold dropE; rw [if_neg hn, if_pos hi]
      have eL : dropL1 n L T t x = L := by unfold dropL1; rw [if_neg (by rw [eE]; decide)]
      have eT : dropT n L T t x = T := by unfold dropT; rw [if_neg (fun e => by rw [eE] at e; omega)]
      rw [eE, eL, eT]
      have ca := Lib.hid (eat_no h t hi)
      replace h := Lib.hid h
      replace hga := Lib.hid hga
      replace eE := Lib.hid eE
      replace eL := Lib.hid eL
      replace eT := Lib.hid eT
      replace hi := Lib.hid hi
      clear hn
      go_enter Tryd.func15, Tryd.ntmps15
      go_wp2_with fail
      refine ch.out.mono ?_
      rintro e _ ⟨rfl, rfl⟩
      go_wp2_with fail
      refine ca.out.mono ?_
      rintro e _ ⟨rfl, rfl⟩
      go_wp2_with fail
      go_ret
      exact ⟨rfl, h.out.mono (by omega), Upd.refl _ _⟩
    | true =>
      obtain ⟨k1, k8, ek, hon⟩ := isIn_pos hi
      have ca := eat_ok h t.toNat k1 (by omega) hon
      have k9 : t.toNat < 9 := by omega
      rw [ek] at ca
      have ct := etimes_any h x hx
      rw [timesI_lt (by omega)] at ct
      have c0 := h.f.row
      have c3 := h.f.c k9
      by_cases h0 : L x = 0
      · have eE : dropE n L T t x = 7 := by unfold dropE; rw [if_neg hn, if_neg (by rw [hi]; decide), if_pos (.inl h0)]
        rw [h0, show ((0 : Nat) : Int) = 0 from rfl] at ct
        clear h0
        have eL : dropL1 n L T t x = L := by unfold dropL1; rw [if_neg (by rw [eE]; decide)]
        have eT : dropT n L T t x = T := by unfold dropT; rw [if_neg (fun e => by rw [eE] at e; omega)]
        rw [eE, eL, eT]
        generalize t.toNat = k at *
        replace h := Lib.hid h
        replace hga := Lib.hid hga
        replace eE := Lib.hid eE
        replace eL := Lib.hid eL
        replace eT := Lib.hid eT
        replace hi := Lib.hid hi
        replace ct := Lib.hid ct
        replace ca := Lib.hid ca
        replace hon := Lib.hid hon
        replace ek := Lib.hid ek
        clear hn
        go_enter Tryd.func15, Tryd.ntmps15
        go_wp2_with fail
        refine ch.out.mono ?_
        rintro e _ ⟨rfl, rfl⟩
        go_wp2_with fail
        refine ca.out.mono ?_
        rintro e _ ⟨rfl, rfl⟩
        go_wp2_with fail
        refine ct.out.mono ?_
        rintro e _ ⟨rfl, rfl⟩
        go_wp2_with fail
        go_ret
        exact ⟨rfl, h.out.mono (by omega), Upd.refl _ _⟩
      · have d1 : ((L x : Int) == 0) = false := beq_eq_false_iff_ne.2 (by omega)
        by_cases hc : (T t.toNat).c = 0
        · have eE : dropE n L T t x = 7 := by unfold dropE; rw [if_neg hn, if_neg (by rw [hi]; decide), if_pos (.inr hc)]
          rw [hc, show ((0 : Nat) : Int) = 0 from rfl] at c3
          clear h0 hc
          generalize hlx : L x = lx at *
          replace hlx := Lib.hid hlx
          have eL : dropL1 n L T t x = L := by unfold dropL1; rw [if_neg (by rw [eE]; decide)]
          have eT : dropT n L T t x = T := by unfold dropT; rw [if_neg (fun e => by rw [eE] at e; omega)]
          rw [eE, eL, eT]
          generalize t.toNat = k at *
          replace h := Lib.hid h
          replace hga := Lib.hid hga
          replace eE := Lib.hid eE
          replace eL := Lib.hid eL
          replace eT := Lib.hid eT
          replace hi := Lib.hid hi
          replace ct := Lib.hid ct
          replace ca := Lib.hid ca
          replace hon := Lib.hid hon
          replace ek := Lib.hid ek
          clear hn
          go_enter Tryd.func15, Tryd.ntmps15
          go_wp2_with fail
          refine ch.out.mono ?_
          rintro e _ ⟨rfl, rfl⟩
          go_wp2_with fail
          refine ca.out.mono ?_
          rintro e _ ⟨rfl, rfl⟩
          go_wp2_with fail
          refine ct.out.mono ?_
          rintro e _ ⟨rfl, rfl⟩
          go_wp2_with fail
          go_ret
          exact ⟨rfl, h.out.mono (by omega), Upd.refl _ _⟩
        · have eE : dropE n L T t x = 0 := by unfold dropE; rw [if_neg hn, if_neg (by rw [hi]; decide), if_neg (by omega)]
          have eL : dropL1 n L T t x = up L x (L x - 1) := by unfold dropL1; rw [if_pos eE]
          have d2 : (((T t.toNat).c : Int) == 0) = false := beq_eq_false_iff_ne.2 (by omega)
          have cr := drop_any h.r (by omega) (x : Int)
          have e2 : dropL n L (x : Int) = up L x (L x - 1) := by unfold dropL; rw [if_neg (by omega), Int.toNat_natCast]
          have e3 : dropFree n L (x : Int) = decide (L x = 1) := by unfold dropFree; rw [if_neg (by omega), Int.toNat_natCast]
          by_cases h1x : L x = 1
          · have eT : dropT n L T t x = lessT T t.toNat := by unfold dropT; rw [if_pos ⟨eE, h1x⟩]
            rw [eL, eT] at hga
            rw [eE, eL, eT]
            have e4 : dropFree n L (x : Int) = true := by rw [e3]; exact decide_eq_true h1x
            have hcl := (h.good.lim t.toNat)
            have hsm := h.small
            have hcp : 1 ≤ (T t.toNat).c := by omega
            generalize hlx : L x = lx at *
            generalize t.toNat = k at *
            replace h := Lib.hid h
            replace hga := Lib.hid hga
            replace eE := Lib.hid eE
            replace eL := Lib.hid eL
            replace eT := Lib.hid eT
            replace hi := Lib.hid hi
            replace ct := Lib.hid ct
            replace ca := Lib.hid ca
            replace hon := Lib.hid hon
            replace ek := Lib.hid ek
            replace cr := Lib.hid cr
            replace e2 := Lib.hid e2
            replace e3 := Lib.hid e3
            replace e4 := Lib.hid e4
            replace hlx := Lib.hid hlx
            clear hn h0 hc h1x
            go_enter Tryd.func15, Tryd.ntmps15
            go_wp2_with fail
            refine ch.out.mono ?_
            rintro e _ ⟨rfl, rfl⟩
            go_wp2_with fail
            refine ca.out.mono ?_
            rintro e _ ⟨rfl, rfl⟩
            go_wp2_with fail
            refine ct.out.mono ?_
            rintro e _ ⟨rfl, rfl⟩
            go_wp2_with fail
            refine cr.out.mono ?_
            rintro e w1 ⟨rfl, R1, U1⟩
            rw [e4.out]
            rw [e2.out] at R1
            have F1 := h.out.fb U1
            have c3' := F1.c k9
            have z3 := F1.frozen (1 + k * 4 + 3)
            have F3 := F1.bump k9 ((T k).c - 1)
            have hc1 : ((((T k).c - 1 : Nat)) : Int) = ((T k).c : Int) - 1 := by omega
            rw [hc1] at F3
            have hU : Upd (fun k => k = b) w1 (w1.setCell ⟨b, 1 + k * 4 + 3, none⟩ (.int .i64 (((T k).c : Int) - 1))) := (Upd.refl (fun k => k = b) w1).setCell ⟨b, 1 + k * 4 + 3, none⟩ _ (fun _ => rfl)
            have h3 := h.out.both R1 F3 hU hga.out
            have V3 := (four_three (b := b) U1).trans (upd_four hU) (fun _ _ h => h)
            have hcb : (T k).c ≤ 2048 := by omega
            clear R1 U1 F1 F3 hc1 hU hcl c3
            replace h3 := Lib.hid h3
            replace V3 := Lib.hid V3
            go_wp2_with fail
            go_ret
            exact ⟨rfl, h3.out, V3.out⟩
          · have eT : dropT n L T t x = T := by unfold dropT; rw [if_neg (fun e => h1x e.2)]
            rw [eL, eT] at hga
            rw [eE, eL, eT]
            have e4 : dropFree n L (x : Int) = false := by rw [e3]; exact decide_eq_false h1x
            generalize hlx : L x = lx at *
            generalize t.toNat = k at *
            replace h := Lib.hid h
            replace hga := Lib.hid hga
            replace eE := Lib.hid eE
            replace eL := Lib.hid eL
            replace eT := Lib.hid eT
            replace hi := Lib.hid hi
            replace ct := Lib.hid ct
            replace ca := Lib.hid ca
            replace hon := Lib.hid hon
            replace ek := Lib.hid ek
            replace cr := Lib.hid cr
            replace e2 := Lib.hid e2
            replace e3 := Lib.hid e3
            replace e4 := Lib.hid e4
            replace hlx := Lib.hid hlx
            clear hn h0 hc h1x
            go_enter Tryd.func15, Tryd.ntmps15
            go_wp2_with fail
            refine ch.out.mono ?_
            rintro e _ ⟨rfl, rfl⟩
            go_wp2_with fail
            refine ca.out.mono ?_
            rintro e _ ⟨rfl, rfl⟩
            go_wp2_with fail
            refine ct.out.mono ?_
            rintro e _ ⟨rfl, rfl⟩
            go_wp2_with fail
            refine cr.out.mono ?_
            rintro e w1 ⟨rfl, R1, U1⟩
            rw [e4.out]
            rw [e2.out] at R1
            have h3 := h.out.rows R1 U1 rfl hga.out
            have V3 := four_three (b := b) U1
            clear R1 U1
            replace h3 := Lib.hid h3
            replace V3 := Lib.hid V3
            go_wp2_with fail
            go_ret
            exact ⟨rfl, h3.out, V3.out⟩
end
end Go.Proofs.YtjhfoddhpmmjoaaDoor
namespace Go.Proofs.YtjhfoddhpmmjoaaDoor
set_option maxRecDepth 100000
open Go.RowKit

theorem four_low {B : Nat} {w w1 w2 : World} {b rb rw rm : Nat} (h : Below B w w1) (u : Upd (Four b rb rw rm) w1 w2) (h0 : B ≤ b) (h1 : B ≤ rb) (h2 : B ≤ rw) (h3 : B ≤ rm) (hB : B ≤ w.heap.size) : Below B w w2 :=
  h.trans (u.below (fun k hk hs => by unfold Four Three at hs; omega) (Nat.le_trans hB h.size))
abbrev T17a : Nat → Ten := admitT 10 (fun _ => Ten.no) 1 4 6
abbrev T17b : Nat → Ten := admitT 10 T17a 2 7 7
abbrev T17c : Nat → Ten := bumpT T17b 1
abbrev T17d : Nat → Ten := dropT 10 (up (fun _ => 0) 0 1) T17c 1 0
theorem e17a : admitE 10 (fun _ => Ten.no) 1 4 6 = 0 := by decide
theorem e17b : admitE 10 T17a 2 7 7 = 61 := by decide
theorem e17c : takeE 10 T17b 1 = 0 := by decide
theorem e17d : dropE 10 (up (fun _ => 0) 0 1) T17c 1 0 = 0 := by decide
theorem e17s : sumA T17d 9 = 4 := by decide
theorem e17h : chargeI T17d 1 = 0 := by decide
set_option maxHeartbeats 4000000 in
set_option maxRecDepth 100000 in
theorem alive_any17 (w : World) (hT : TabAt w) : Calls Tryd.prog 17 #[] w fun e w' => e = .returned (.bool true) ∧ Below w.heap.size w w' := by
  have c1 := Lib.hid (enew_ok w 10 (by omega) (by omega))
  replace hT := Lib.hid hT
  go_enter Tryd.func17, Tryd.ntmps17
  go_wp2_with fail
  refine c1.out.mono ?_
  rintro e w1 ⟨b, rb, rw_, rm, h0, h1, h2, h3, rfl, r1, B1⟩
  clear c1
  have c2 := fun x (hx : FieldAt x b rb rw_ rm 10 0 (fun _ => 0) (fun _ => Ten.no)) => eadmit_any hx 1 4 6
  replace B1 := Lib.hid B1
  replace c2 := Lib.hid c2
  replace r1 := Lib.hid r1
  go_wp2_with fail
  refine (c2.out _ r1.out).mono ?_
  rintro e w2 ⟨rfl, r2, U2⟩
  rw [e17a]
  have B2 := four_low B1.out U2 h0 h1 h2 h3 (Nat.le_refl _)
  clear c2 r1 B1 U2
  have c3 := fun x (hx : FieldAt x b rb rw_ rm 10 0 (fun _ => 0) T17a) => eadmit_any hx 2 7 7
  replace B2 := Lib.hid B2
  replace c3 := Lib.hid c3
  replace r2 := Lib.hid r2
  go_wp2_with fail
  refine (c3.out _ r2.out).mono ?_
  rintro e w3 ⟨rfl, r3, U3⟩
  rw [e17b]
  have B3 := four_low B2.out U3 h0 h1 h2 h3 (Nat.le_refl _)
  clear c3 r2 B2 U3
  have c4 := fun x (hx : FieldAt x b rb rw_ rm 10 0 (fun _ => 0) T17b) (ht : TabAt x) => etake_ok hx ht (by decide) 1 e17c
  have t3 := hT.out.below B3
  replace B3 := Lib.hid B3
  replace c4 := Lib.hid c4
  replace r3 := Lib.hid r3
  replace t3 := Lib.hid t3
  go_wp2_with fail
  refine (c4.out _ r3.out t3.out).mono ?_
  rintro e w4 ⟨i, hi, _, hj, rfl, r4, U4⟩
  have i0 : i = 0 := by
    rcases Nat.eq_zero_or_pos i with e | e
    · exact e
    · exact absurd (hj 0 e) (by decide)
  subst i0
  have B4 := four_low B3.out U4 h0 h1 h2 h3 (Nat.le_refl _)
  have c5 := fun x (hx : FieldAt x b rb rw_ rm 10 1 (up (fun _ => 0) 0 1) T17c) => edrop_any hx (by decide) 1 0 (by decide)
  clear c4 r3 B3 U4 hj hi
  replace B4 := Lib.hid B4
  replace c5 := Lib.hid c5
  replace r4 := Lib.hid r4
  go_wp2_with fail
  refine (c5.out _ r4.out).mono ?_
  rintro e w5 ⟨rfl, r5, U5⟩
  rw [e17d]
  have B5 := four_low B4.out U5 h0 h1 h2 h3 (Nat.le_refl _)
  have c6 := fun x (hx : FieldAt x b rb rw_ rm 10 2 (dropL1 10 (up (fun _ => 0) 0 1) T17c 1 0) T17d) => eslack_any hx
  have c7 := fun x (hx : FieldAt x b rb rw_ rm 10 2 (dropL1 10 (up (fun _ => 0) 0 1) T17c 1 0) T17d) => echarge_any hx 1
  rw [e17s] at c6
  rw [e17h] at c7
  clear c5 r4 B4 U5
  replace B5 := Lib.hid B5
  replace c6 := Lib.hid c6
  replace c7 := Lib.hid c7
  replace r5 := Lib.hid r5
  go_wp2_with fail
  refine (c6.out _ r5.out).mono ?_
  rintro e w6 ⟨rfl, B6⟩
  have r6 := r5.out.below B6
  have B7 := B5.out.trans (B6.mono B5.out.size)
  clear c6 r5 B6 B5
  replace B7 := Lib.hid B7
  replace r6 := Lib.hid r6
  go_wp2_with fail
  refine (c7.out _ r6.out).mono ?_
  rintro e w7 ⟨rfl, rfl⟩
  go_wp2_with fail
  go_ret
  exact ⟨rfl, B7.out⟩
end Go.Proofs.YtjhfoddhpmmjoaaDoor
