/-
  Layer 17: 'alive'. The table of math/bits stands in the world: the one condition.
-/
import Derived.Test.YtjhfoddhpmmjoaaDoorExtDrop
namespace Go.Proofs.YtjhfoddhpmmjoaaDoor
set_option maxRecDepth 100000
open Go.RowKit

theorem four_low {B : Nat} {w w1 w2 : World} {b rb rw rm : Nat} (h : Below B w w1) (u : Upd (Four b rb rw rm) w1 w2) (h0 : B ≤ b) (h1 : B ≤ rb) (h2 : B ≤ rw) (h3 : B ≤ rm) (hB : B ≤ w.heap.size) : Below B w w2 :=
  h.trans (u.below (fun k hk hs => by unfold Four Three at hs; omega) (Nat.le_trans hB h.size))
abbrev T17a : Nat → Ten := admitT 10 (fun _ => Ten.no) 1 4 6
abbrev T17b : Nat → Ten := admitT 10 T17a 2 7 7
abbrev T17c : Nat → Ten := bumpT T17b 1
abbrev T17d : Nat → Ten := dropT 10 (up (fun _ => 0) 0 1) T17c 1 0
theorem e17a : admitE 10 (fun _ => Ten.no) 1 4 6 = 0 := by decide
theorem e17b : admitE 10 T17a 2 7 7 = 61 := by decide
theorem e17c : takeE 10 T17b 1 = 0 := by decide
theorem e17d : dropE 10 (up (fun _ => 0) 0 1) T17c 1 0 = 0 := by decide
theorem e17s : sumA T17d 9 = 4 := by decide
theorem e17h : chargeI T17d 1 = 0 := by decide
set_option maxHeartbeats 4000000 in
set_option maxRecDepth 100000 in
theorem alive_any17 (w : World) (hT : TabAt w) : Calls Tryd.prog 17 #[] w fun e w' => e = .returned (.bool true) ∧ Below w.heap.size w w' := by
  have c1 := Lib.hid (enew_ok w 10 (by omega) (by omega))
  replace hT := Lib.hid hT
  go_enter Tryd.func17, Tryd.ntmps17
  go_wp2_with fail
  refine c1.out.mono ?_
  rintro e w1 ⟨b, rb, rw_, rm, h0, h1, h2, h3, rfl, r1, B1⟩
  clear c1
  have c2 := fun x (hx : FieldAt x b rb rw_ rm 10 0 (fun _ => 0) (fun _ => Ten.no)) => eadmit_any hx 1 4 6
  replace B1 := Lib.hid B1
  replace c2 := Lib.hid c2
  replace r1 := Lib.hid r1
  go_wp2_with fail
  refine (c2.out _ r1.out).mono ?_
  rintro e w2 ⟨rfl, r2, U2⟩
  rw [e17a]
  have B2 := four_low B1.out U2 h0 h1 h2 h3 (Nat.le_refl _)
  clear c2 r1 B1 U2
  have c3 := fun x (hx : FieldAt x b rb rw_ rm 10 0 (fun _ => 0) T17a) => eadmit_any hx 2 7 7
  replace B2 := Lib.hid B2
  replace c3 := Lib.hid c3
  replace r2 := Lib.hid r2
  go_wp2_with fail
  refine (c3.out _ r2.out).mono ?_
  rintro e w3 ⟨rfl, r3, U3⟩
  rw [e17b]
  have B3 := four_low B2.out U3 h0 h1 h2 h3 (Nat.le_refl _)
  clear c3 r2 B2 U3
  have c4 := fun x (hx : FieldAt x b rb rw_ rm 10 0 (fun _ => 0) T17b) (ht : TabAt x) => etake_ok hx ht (by decide) 1 e17c
  have t3 := hT.out.below B3
  replace B3 := Lib.hid B3
  replace c4 := Lib.hid c4
  replace r3 := Lib.hid r3
  replace t3 := Lib.hid t3
  go_wp2_with fail
  refine (c4.out _ r3.out t3.out).mono ?_
  rintro e w4 ⟨i, hi, _, hj, rfl, r4, U4⟩
  have i0 : i = 0 := by
    rcases Nat.eq_zero_or_pos i with e | e
    · exact e
    · exact absurd (hj 0 e) (by decide)
  subst i0
  have B4 := four_low B3.out U4 h0 h1 h2 h3 (Nat.le_refl _)
  have c5 := fun x (hx : FieldAt x b rb rw_ rm 10 1 (up (fun _ => 0) 0 1) T17c) => edrop_any hx (by decide) 1 0 (by decide)
  clear c4 r3 B3 U4 hj hi
  replace B4 := Lib.hid B4
  replace c5 := Lib.hid c5
  replace r4 := Lib.hid r4
  go_wp2_with fail
  refine (c5.out _ r4.out).mono ?_
  rintro e w5 ⟨rfl, r5, U5⟩
  rw [e17d]
  have B5 := four_low B4.out U5 h0 h1 h2 h3 (Nat.le_refl _)
  have c6 := fun x (hx : FieldAt x b rb rw_ rm 10 2 (dropL1 10 (up (fun _ => 0) 0 1) T17c 1 0) T17d) => eslack_any hx
  have c7 := fun x (hx : FieldAt x b rb rw_ rm 10 2 (dropL1 10 (up (fun _ => 0) 0 1) T17c 1 0) T17d) => echarge_any hx 1
  rw [e17s] at c6
  rw [e17h] at c7
  clear c5 r4 B4 U5
  replace B5 := Lib.hid B5
  replace c6 := Lib.hid c6
  replace c7 := Lib.hid c7
  replace r5 := Lib.hid r5
  go_wp2_with fail
  refine (c6.out _ r5.out).mono ?_
  rintro e w6 ⟨rfl, B6⟩
  have r6 := r5.out.below B6
  have B7 := B5.out.trans (B6.mono B5.out.size)
  clear c6 r5 B6 B5
  replace B7 := Lib.hid B7
  replace r6 := Lib.hid r6
  go_wp2_with fail
  refine (c7.out _ r6.out).mono ?_
  rintro e w7 ⟨rfl, rfl⟩
  go_wp2_with fail
  go_ret
  exact ⟨rfl, B7.out⟩
end Go.Proofs.YtjhfoddhpmmjoaaDoor
