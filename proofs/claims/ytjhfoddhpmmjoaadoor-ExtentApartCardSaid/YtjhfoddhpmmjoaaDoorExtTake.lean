/-
  extent: Take, Claim, Drop. Conditions: the field's blocks are its own; math/bits' table is laid.
-/
import Derived.Test.YtjhfoddhpmmjoaaDoorExtResize
namespace Go.Proofs.YtjhfoddhpmmjoaaDoor
set_option maxRecDepth 100000
open Go.RowKit

def takeE (n : Nat) (T : Nat → Ten) (t : Int) : Int := if isIn T t = false then 51 else roomE n T (T t.toNat)
theorem TabAt.below {w w' : World} (h : TabAt w) (hB : Below w.heap.size w w') : TabAt w' := fun i v hv => (hB.cell (block_lt_of_cell (h i v hv))).trans (h i v hv)
section
variable {w : World} {b rb rw rm n m : Nat} {L : Nat → Nat} {T : Nat → Ten}
set_option maxHeartbeats 4000000 in
set_option maxRecDepth 100000 in
theorem etake_no (h : FieldAt w b rb rw rm n m L T) (t : Int) (hE : takeE n T t ≠ 0) :
    Calls Tryd.prog 21 #[.pointer (some ⟨b, 0, none⟩), .int .i64 t] w fun e w' => e = .returned (.tuple #[.int .u32 0, .int .i64 (takeE n T t)]) ∧ Below w.heap.size w w' := by
  have cm := Lib.hid (emade_any h)
  cases hi : isIn T t with
  | false =>
    have eE : takeE n T t = 51 := by unfold takeE; rw [if_pos hi]
    rw [eE]
    have ca := Lib.hid (eat_no h t hi)
    replace h := Lib.hid h
    replace eE := Lib.hid eE
    replace hi := Lib.hid hi
    replace hE := Lib.hid hE
    go_enter Tryd.func21, Tryd.ntmps21
    go_wp2_with fail
    refine ca.out.mono ?_
    rintro e _ ⟨rfl, rfl⟩
    go_wp2_with fail
    refine cm.out.mono ?_
    rintro e _ ⟨rfl, rfl⟩
    go_wp2_with fail
    go_ret2
    exact ⟨rfl, Below.refl _ _⟩
  | true =>
    obtain ⟨k1, k8, ek, hon⟩ := isIn_pos hi
    have ca := eat_ok h t.toNat k1 (by omega) hon
    have cr := eroom_any h t.toNat (by omega)
    have eE : takeE n T t = roomE n T (T t.toNat) := by unfold takeE; rw [if_neg (by rw [hi]; decide)]
    rw [ek] at ca
    rw [← eE] at cr
    generalize takeE n T t = E at *
    have d1 : (E == 0) = false := beq_eq_false_iff_ne.2 hE
    have d2 : (E != 0) = true := by rw [bne, d1]; rfl
    generalize t.toNat = k at *
    replace h := Lib.hid h
    replace eE := Lib.hid eE
    replace hi := Lib.hid hi
    replace hon := Lib.hid hon
    replace ek := Lib.hid ek
    replace ca := Lib.hid ca
    replace cr := Lib.hid cr
    go_enter Tryd.func21, Tryd.ntmps21
    go_wp2_with fail
    refine ca.out.mono ?_
    rintro e _ ⟨rfl, rfl⟩
    go_wp2_with fail
    refine cm.out.mono ?_
    rintro e _ ⟨rfl, rfl⟩
    go_wp2_with fail
    refine cr.out.mono ?_
    rintro e w1 ⟨rfl, B1⟩
    replace B1 := Lib.hid B1
    go_wp2_with fail
    go_ret2
    exact ⟨rfl, B1.out⟩
/-- What Take says where there is room. -/
def TakeSays (b rb rw rm n m : Nat) (L : Nat → Nat) (T : Nat → Ten) (t : Nat) (w : World) (e : Ending) (w' : World) : Prop :=
  ∃ i, i < n ∧ L i = 0 ∧ (∀ j, j < i → 0 < L j) ∧ e = .returned (.tuple #[.int .u32 (i : Int), .int .i64 0]) ∧ FieldAt w' b rb rw rm n (m + 1) (up L i 1) (bumpT T t) ∧ Upd (Four b rb rw rm) w w'
set_option maxHeartbeats 4000000 in
set_option maxRecDepth 100000 in
theorem etake_ok (h : FieldAt w b rb rw rm n m L T) (hT : TabAt w) (hm : m < 1000000000) (t : Int) (hE : takeE n T t = 0) :
    Calls Tryd.prog 21 #[.pointer (some ⟨b, 0, none⟩), .int .i64 t] w (TakeSays b rb rw rm n m L T t.toNat w) := by
  have cm := Lib.hid (emade_any h)
  have hi : isIn T t = true := by
    unfold takeE at hE
    cases hi : isIn T t with
    | false => rw [if_pos hi] at hE; omega
    | true => rfl
  obtain ⟨k1, k8, ek, hon⟩ := isIn_pos hi
  have hr : roomE n T (T t.toNat) = 0 := by unfold takeE at hE; rwa [if_neg (by rw [hi]; decide)] at hE
  obtain ⟨i0, hi0, hL0⟩ := h.good.free hi hr
  have hgb := fun i (hi' : i < n) (h0 : L i = 0) => h.good.bump hi hr hi' h0
  have ca := eat_ok h t.toNat k1 (by omega) hon
  have cr := eroom_any h t.toNat (by omega)
  have k9 : t.toNat < 9 := by omega
  have hsm := h.small
  rw [ek] at ca
  rw [hr] at cr
  generalize t.toNat = k at *
  replace h := Lib.hid h
  replace hi := Lib.hid hi
  replace hon := Lib.hid hon
  replace ek := Lib.hid ek
  replace ca := Lib.hid ca
  replace cr := Lib.hid cr
  replace hE := Lib.hid hE
  replace hr := Lib.hid hr
  replace hgb := Lib.hid hgb
  replace hT := Lib.hid hT
  go_enter Tryd.func21, Tryd.ntmps21
  go_wp2_with fail
  refine ca.out.mono ?_
  rintro e _ ⟨rfl, rfl⟩
  go_wp2_with fail
  refine cm.out.mono ?_
  rintro e _ ⟨rfl, rfl⟩
  go_wp2_with fail
  refine cr.out.mono ?_
  rintro e w1 ⟨rfl, B1⟩
  have h1 := h.out.below B1
  have T1 := hT.out.below B1
  have c0 := h1.f.row
  have cf := Lib.hid (free_all h1.r T1 0)
  clear ca cm cr h
  replace B1 := Lib.hid B1
  replace h1 := Lib.hid h1
  replace T1 := Lib.hid T1
  go_wp2_with fail
  refine cf.out.mono ?_
  rintro e _ ⟨x, hx, rfl, rfl⟩
  clear cf
  cases x with
  | none => exact absurd hL0 (by have := hx i0 (Nat.zero_le _) hi0; omega)
  | some i =>
    obtain ⟨-, x2, x3, x4⟩ := hx
    simp only [Option.getD_some, Option.isSome_some]
    have ch := hold_any h1.out.r (by omega) (i : Int)
    have e1 : holdRes n L (i : Int) = 0 := by rw [holdRes_lt x2, if_neg (by omega)]
    have e2 : holdL n L (i : Int) = up L i 1 := by rw [holdL_lt x2, if_pos e1, x3]
    have hi32 : (i : Int) < 4294967296 := by omega
    have hg := hgb.out i x2 x3
    replace ch := Lib.hid ch
    replace e1 := Lib.hid e1
    replace e2 := Lib.hid e2
    replace hg := Lib.hid hg
    clear hgb hL0
    go_wp2_with fail
    refine ch.out.mono ?_
    rintro e w2 ⟨rfl, R2, U2⟩
    rw [e1.out]
    rw [e2.out] at R2
    have F2 : FieldB w2 b (some ⟨rb, 0, none⟩) T := h1.out.f.other (U2.block _ h1.out.f.lt fun e => e.elim (fun e => h1.out.ne.1 e) (fun e => e.elim (fun e => h1.out.ne.2.1 e) (fun e => h1.out.ne.2.2 e)))
    have c3 := F2.c k9
    have z3 := F2.frozen (1 + k * 4 + 3)
    have F3 := F2.bump k9 ((T k).c + 1)
    have hcl := (h1.out.good.lim k)
    have hc1 : ((((T k).c + 1 : Nat)) : Int) = ((T k).c : Int) + 1 := by omega
    rw [hc1] at F3
    have hcb : (T k).c ≤ 2048 := by omega
    have hU : Upd (fun k => k = b) w2 (w2.setCell ⟨b, 1 + k * 4 + 3, none⟩ (.int .i64 (((T k).c : Int) + 1))) := (Upd.refl (fun k => k = b) w2).setCell ⟨b, 1 + k * 4 + 3, none⟩ _ (fun _ => rfl)
    have F4 : FieldAt (w2.setCell ⟨b, 1 + k * 4 + 3, none⟩ (.int .i64 (((T k).c : Int) + 1))) b rb rw rm n (m + 1) (up L i 1) (bumpT T k) :=
      ⟨F3, R2.stay hU (fun e => h1.out.ne.1 e.symm) (fun e => h1.out.ne.2.1 e.symm) (fun e => h1.out.ne.2.2 e.symm), h1.out.ne, hg.out, hsm⟩
    have hV := ((four_below (rb := rb) (rw := rw) (rm := rm) (b := b) B1.out).trans (four_three U2) (fun _ _ h => h)).trans (upd_four hU) (fun _ _ h => h)
    have x5 : ∀ j, j < i → 0 < L j := fun j hj => Nat.pos_of_ne_zero (x4 j (Nat.zero_le _) hj)
    clear ch R2 U2 F2 F3 hU x4 hcl hc1
    replace F4 := Lib.hid F4
    replace hV := Lib.hid hV
    replace x5 := Lib.hid x5
    go_wp2_with fail
    go_ret2
    exact ⟨i, x2, x3, x5.out, rfl, F4.out, hV.out⟩
end
end Go.Proofs.YtjhfoddhpmmjoaaDoor
