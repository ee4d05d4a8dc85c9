/-
  ExtentReserve: the walk. The table of math/bits stands in the world: the one condition.
-/
import Derived.Test.YtjhfoddhpmmjoaaDoorSums17
namespace Go.Proofs.YtjhfoddhpmmjoaaDoor
set_option maxRecDepth 100000
open Go.RowKit

theorem take_zero {n : Nat} {L : Nat → Nat} {T : Nat → Ten} (g : Good n L T) {k : Nat} (k1 : 1 ≤ k) (k9 : k < 9) (hon : (T k).on = true) (hc : (T k).c < (T k).r) : takeE n T (k : Int) = 0 := by
  have hl := g.lim k
  have hi : isIn T (k : Int) = true := by rw [isIn_nat k1 k9, hon]
  unfold takeE roomE
  rw [if_neg (by rw [hi]; decide), Int.toNat_natCast, if_neg (by omega), if_neg (by omega)]
theorem drop_zero17 {n : Nat} {L : Nat → Nat} {T : Nat → Ten} {k i : Nat} (k1 : 1 ≤ k) (k9 : k < 9) (hon : (T k).on = true) (hi : i < n) : dropE n (up L i 1) (bumpT T k) (k : Int) i = 0 := by
  have hin : isIn (bumpT T k) (k : Int) = true := by
    rw [isIn_nat k1 k9]
    unfold bumpT
    rw [setT_same]
    exact hon
  unfold dropE
  rw [if_neg (by omega), if_neg (by rw [hin]; decide), Int.toNat_natCast, up_same, if_neg ?_]
  rintro (h | h)
  · exact absurd h (by decide)
  · unfold bumpT at h; rw [setT_same] at h; exact absurd h (Nat.succ_ne_zero _)
set_option maxHeartbeats 4000000 in
set_option maxRecDepth 100000 in
theorem reserve17_any (w : World) (hT : TabAt w) (ao : Option Addr) (len cap : Nat) (F : Nat → Op17) (hO : OpsIn w ao len F) :
    Calls Tryd.prog 5 #[.slice ao len cap] w fun e w' => e = .returned (.bool true) ∧ Below w.heap.size w w' := by
  have cb := Lib.hid (begin17_ok w 30 (by decide) (by decide))
  replace hT := Lib.hid hT
  replace hO := Lib.hid hO
  go_enter Tryd.func5, Tryd.ntmps5
  go_wp2_with fail
  refine cb.out.mono ?_
  rintro e w1 ⟨ob, b, rb, rw_, rm, wb, g0, g1, g2, g3, g4, g5, rfl, hF, B1⟩
  have st1 : SumSt w w1 ob b rb rw_ rm wb (17 * 0) := ⟨_, _, _, hF, B1, hT.out.below B1⟩
  clear cb hF B1
  replace st1 := Lib.hid st1
  go_wp2_with fail
  go_loopw [5] (fun iv wr => ∃ i : Nat, i ≤ 120 ∧ i ≤ len ∧ iv = .int .i64 (i : Int) ∧ Hid (SumSt w wr ob b rb rw_ rm wb (17 * i))) (fun iv _ => 120 - (intOf iv).toNat)
  case atStart => exact ⟨0, by decide, Nat.zero_le _, rfl, st1⟩
  case round =>
    clear st1
    obtain ⟨i, hi, hil, rfl, st⟩ := hrel
    by_cases hlt : i < len ∧ i < 120
    · have d1 : decide ((i : Int) < (len : Int)) = true := decide_eq_true (by omega)
      have d2 : decide ((i : Int) < 120) = true := decide_eq_true (by omega)
      obtain ⟨L, T, W, hF, B, hT2⟩ := st.out
      have hO2 := hO.out.below B
      obtain ⟨pb, po, rfl⟩ := hO2.addr hlt.1
      have rg := hO2.range hlt.1
      have cd := Lib.hid (do_any hF hT2 (by omega) (F i) (hO2 i hlt.1).1)
      have d3 : 0 ≤ (i : Int) ∧ (i : Int) < (len : Int) := by omega
      replace hF := Lib.hid hF
      replace B := Lib.hid B
      replace hT2 := Lib.hid hT2
      replace hO2 := Lib.hid hO2
      replace st := Lib.hid st
      replace rg := Lib.hid rg
      go_wp2_with (refine wpList_load_mid (by rfl) 36 (.tmp 31) rfl pb (po + i * 5) rfl (F i).cells _ rg.out Tryd.underlying36 rfl (infoOp17 (F i)) ?_)
      refine cd.out.mono ?_
      rintro e w2 ⟨x, E, L2, T2, W2, rfl, hF2, U2, R2⟩
      have B2 := six_low B.out U2 g0 g1 g2 g3 g4 g5
      have st2 : SumSt w w2 ob b rb rw_ rm wb (17 * i + 2 * 1 - 1) := ⟨_, _, _, hF2, B2, hT.out.below B2⟩
      clear cd hF B hT2 hO2 rg st U2 R2 hF2 B2
      replace st2 := Lib.hid st2
      go_wp2_with fail
      go_loopw [6] (fun kv wr => ∃ k : Nat, 1 ≤ k ∧ k ≤ 9 ∧ kv = .int .i64 (k : Int) ∧ Hid (SumSt w wr ob b rb rw_ rm wb (17 * i + 2 * k - 1))) (fun kv _ => 9 - (intOf kv).toNat)
      case atStart => exact ⟨1, by decide, by decide, rfl, st2⟩
      case round =>
        clear st2
        clear L T W L2 T2 W2
        obtain ⟨k, k1, k9, rfl, st⟩ := hrel
        by_cases hkl : k ≤ 8
        · have d4 : decide ((k : Int) ≤ 8) = true := decide_eq_true (by omega)
          obtain ⟨L, T, W, hF, B, hT2⟩ := st.out
          have g := hF.f.good
          have q0 := hF.o0
          have cl := elimits_any hF.f k
          have cc := fun x m (hx : FieldAt x b rb rw_ rm 30 m L T) => echarge_any hx k
          have ek := isIn_nat (T := T) k1 (by omega : k < 9)
          unfold limR limQ at cl
          unfold chargeI at cc
          rw [ek, Int.toNat_natCast] at cl cc
          have hm2 : ∀ x, Below wr.heap.size wr x → OwnF x ob b rb rw_ rm wb 30 (17 * i + 2 * k - 1) L T W ∧ Below w.heap.size w x := fun x hx => ⟨hF.below hx, B.trans (hx.mono B.size)⟩
          cases hon : (T k).on with
          | false =>
            rw [hon, if_neg (by decide), if_neg (by decide)] at cl
            clear cc g ek
            replace hF := Lib.hid hF
            replace B := Lib.hid B
            replace hT2 := Lib.hid hT2
            replace cl := Lib.hid cl
            replace hm2 := Lib.hid hm2
            replace hon := Lib.hid hon
            replace st := Lib.hid st
            go_wp2_with fail
            refine cl.out.mono ?_
            rintro e w3 ⟨rfl, B3⟩
            obtain ⟨hF3, B3'⟩ := hm2.out _ B3
            have st3 : SumSt w w3 ob b rb rw_ rm wb (17 * i + 2 * (k + 1) - 1) := ⟨_, _, _, hF3.mono (by omega), B3', hT.out.below B3'⟩
            clear B3 cl hF3 B3'
            replace st3 := Lib.hid st3
            go_wp2_with fail
            go_roundw
            case rel => exact ⟨k + 1, by omega, by omega, by go_num, st3⟩
            case measure => simp [intOf]; omega
          | true =>
            rw [hon, if_pos rfl, if_pos rfl] at cl
            rw [hon, if_pos rfl] at cc
            by_cases hcr : (T k).c < (T k).r
            · have d5 : decide (((T k).c : Int) ≥ ((T k).r : Int)) = false := decide_eq_false (by omega)
              have d5n : ¬ (T k).r ≤ (T k).c := by omega
              have eT := take_zero g k1 (by omega) hon hcr
              have eD := fun j (hj : j < 30) => drop_zero17 (L := L) (T := T) k1 (by omega) hon hj
              have ctk := fun x (hx : FieldAt x b rb rw_ rm 30 (17 * i + 2 * k - 1) L T) (ht : TabAt x) => etake_ok hx ht (by omega) (k : Int) eT
              clear g ek
              replace hF := Lib.hid hF
              replace B := Lib.hid B
              replace hT2 := Lib.hid hT2
              replace cl := Lib.hid cl
              replace hm2 := Lib.hid hm2
              replace hon := Lib.hid hon
              replace st := Lib.hid st
              replace ctk := Lib.hid ctk
              replace cc := Lib.hid cc
              replace eD := Lib.hid eD
              replace eT := Lib.hid eT
              go_wp2_with fail
              refine cl.out.mono ?_
              rintro e w3 ⟨rfl, B3⟩
              obtain ⟨hF3, B3'⟩ := hm2.out _ B3
              have hT3 := hT.out.below B3'
              have q1 := hF3.o0
              clear B3 cl
              replace hF3 := Lib.hid hF3
              replace B3' := Lib.hid B3'
              replace hT3 := Lib.hid hT3
              go_wp2_with fail
              refine (cc.out _ _ hF3.out.f).mono ?_
              rintro e _ ⟨rfl, rfl⟩
              go_wp2_with fail
              refine (ctk.out _ hF3.out.f hT3.out).mono ?_
              rintro e w4 ⟨j, hj, hL, _, rfl, F4, U4⟩
              rw [Int.toNat_natCast] at F4
              have ct := etimes_any F4 j (by omega)
              rw [timesI_lt hj, up_same] at ct
              have cdr := edrop_any F4 (by omega) (k : Int) j (by omega)
              rw [eD.out j hj] at cdr
              have hF4 := hF3.out.turn F4 U4
              have B4 := six_low B3'.out (upd_six_four (ob := ob) (wb := wb) U4) g0 g1 g2 g3 g4 g5
              have q2 := hF4.o0
              clear ctk cc hF3 B3' hT3 U4 F4 hL
              replace hF4 := Lib.hid hF4
              replace B4 := Lib.hid B4
              replace ct := Lib.hid ct
              replace cdr := Lib.hid cdr
              go_wp2_with fail
              refine ct.out.mono ?_
              rintro e _ ⟨rfl, rfl⟩
              go_wp2_with fail
              refine cdr.out.mono ?_
              rintro e w5 ⟨rfl, F5, U5⟩
              have hF5 := hF4.out.turn F5 U5
              have B5 := six_low B4.out (upd_six_four (ob := ob) (wb := wb) U5) g0 g1 g2 g3 g4 g5
              have st5 : SumSt w w5 ob b rb rw_ rm wb (17 * i + 2 * (k + 1) - 1) := ⟨_, _, _, hF5.mono (by omega), B5, hT.out.below B5⟩
              clear hF4 B4 F5 U5 hF5 B5 ct cdr
              replace st5 := Lib.hid st5
              go_wp2_with fail
              go_roundw
              case rel => exact ⟨k + 1, by omega, by omega, by go_num, st5⟩
              case measure => simp [intOf]; omega
            · have d5 : decide (((T k).c : Int) ≥ ((T k).r : Int)) = true := decide_eq_true (by omega)
              have d5n : (T k).r ≤ (T k).c := by omega
              clear g ek
              replace hF := Lib.hid hF
              replace B := Lib.hid B
              replace hT2 := Lib.hid hT2
              replace cl := Lib.hid cl
              replace hm2 := Lib.hid hm2
              replace hon := Lib.hid hon
              replace st := Lib.hid st
              replace cc := Lib.hid cc
              go_wp2_with fail
              refine cl.out.mono ?_
              rintro e w3 ⟨rfl, B3⟩
              obtain ⟨hF3, B3'⟩ := hm2.out _ B3
              have q1 := hF3.o0
              have st3 : SumSt w w3 ob b rb rw_ rm wb (17 * i + 2 * (k + 1) - 1) := ⟨_, _, _, hF3.mono (by omega), B3', hT.out.below B3'⟩
              clear B3 cl
              replace hF3 := Lib.hid hF3
              replace B3' := Lib.hid B3'
              replace st3 := Lib.hid st3
              go_wp2_with fail
              refine (cc.out _ _ hF3.out.f).mono ?_
              rintro e _ ⟨rfl, rfl⟩
              go_wp2_with fail
              go_roundw
              case rel => exact ⟨k + 1, by omega, by omega, by go_num, st3⟩
              case measure => simp [intOf]; omega
        · obtain rfl : k = 9 := by omega
          have st3 : Hid (SumSt w wr ob b rb rw_ rm wb (17 * (i + 1))) := st
          clear st
          simp only [show ((9 : Nat) : Int) = 9 from rfl]
          go_wp2_with fail
          go_roundw
          case rel => exact ⟨i + 1, by omega, by omega, by go_num, st3⟩
          case measure => simp [intOf]; omega
    · have dd : (decide ((i : Int) < (len : Int)) = false ∧ ¬ i < len) ∨ (decide ((i : Int) < (len : Int)) = true ∧ decide ((i : Int) < 120) = false ∧ ¬ i < 120 ∧ i < len) := by
        by_cases h : i < len
        · exact .inr ⟨decide_eq_true (by omega), decide_eq_false (by omega), by omega, h⟩
        · exact .inl ⟨decide_eq_false (by omega), h⟩
      obtain ⟨L, T, W, hF, B, hT2⟩ := st.out
      have al := alive_any17 wr hT2
      clear hF hT2 hlt
      replace B := Lib.hid B
      replace al := Lib.hid al
      replace st := Lib.hid st
      rcases dd with ⟨d1, d1n⟩ | ⟨d1, d2, d2n, d1n⟩
      · go_wp2_with fail
        refine al.out.mono ?_
        rintro e w3 ⟨rfl, B3⟩
        go_wp2_with fail
        go_ret
        exact ⟨rfl, B.out.trans (B3.mono B.out.size)⟩
      · go_wp2_with fail
        refine al.out.mono ?_
        rintro e w3 ⟨rfl, B3⟩
        go_wp2_with fail
        go_ret
        exact ⟨rfl, B.out.trans (B3.mono B.out.size)⟩
end Go.Proofs.YtjhfoddhpmmjoaaDoor
