/-
  ExtentSums: the walk. The table of math/bits stands in the world: the one condition.
-/
import Derived.Test.YtjhfoddhpmmjoaaDoorDo17
import Derived.Test.YtjhfoddhpmmjoaaDoorOps17
namespace Go.Proofs.YtjhfoddhpmmjoaaDoor
set_option maxRecDepth 100000
open Go.RowKit

theorem six_low {w w1 w2 : World} {ob b rb rw rm wb : Nat} (h : Below w.heap.size w w1) (u : Upd (Six ob b rb rw rm wb) w1 w2) (g0 : w.heap.size ≤ ob) (g1 : w.heap.size ≤ b) (g2 : w.heap.size ≤ rb) (g3 : w.heap.size ≤ rw) (g4 : w.heap.size ≤ rm) (g5 : w.heap.size ≤ wb) : Below w.heap.size w w2 :=
  h.trans (u.below (fun k hk hs => by unfold Six Four Three at hs; omega) h.size)
theorem sumA_le (T : Nat → Ten) {k n : Nat} (h : sumA T 9 ≤ n) (hk : k ≤ 9) : sumA T k ≤ n := by
  have h2 : ∀ j k, j ≤ k → sumA T j ≤ sumA T k := fun j k hjk => by
    induction hjk with
    | refl => exact Nat.le_refl _
    | step _ ih => exact Nat.le_trans ih (by show _ ≤ sumA T _ + _; omega)
  exact Nat.le_trans (h2 k 9 hk) h
/-- A field under way. -/
def SumSt (w0 w : World) (ob b rb rw rm wb m : Nat) : Prop := ∃ L T W, OwnF w ob b rb rw rm wb 30 m L T W ∧ Below w0.heap.size w0 w ∧ TabAt w
set_option maxHeartbeats 4000000 in
set_option maxRecDepth 100000 in
theorem sums17_any (w : World) (hT : TabAt w) (ao : Option Addr) (len cap : Nat) (F : Nat → Op17) (hO : OpsIn w ao len F) :
    Calls Tryd.prog 4 #[.slice ao len cap] w fun e w' => e = .returned (.bool true) ∧ Below w.heap.size w w' := by
  have cb := Lib.hid (begin17_ok w 30 (by decide) (by decide))
  replace hT := Lib.hid hT
  replace hO := Lib.hid hO
  go_enter Tryd.func4, Tryd.ntmps4
  go_wp2_with fail
  refine cb.out.mono ?_
  rintro e w1 ⟨ob, b, rb, rw_, rm, wb, g0, g1, g2, g3, g4, g5, rfl, hF, B1⟩
  have st1 : SumSt w w1 ob b rb rw_ rm wb 0 := ⟨_, _, _, hF, B1, hT.out.below B1⟩
  clear cb hF B1
  replace st1 := Lib.hid st1
  go_wp2_with fail
  go_loopw [5] (fun iv wr => ∃ i : Nat, i ≤ 150 ∧ i ≤ len ∧ iv = .int .i64 (i : Int) ∧ Hid (SumSt w wr ob b rb rw_ rm wb i)) (fun iv _ => 150 - (intOf iv).toNat)
  case atStart => exact ⟨0, by decide, Nat.zero_le _, rfl, st1⟩
  case round =>
    clear st1
    obtain ⟨i, hi, hil, rfl, st⟩ := hrel
    by_cases hlt : i < len ∧ i < 150
    · have d1 : decide ((i : Int) < (len : Int)) = true := decide_eq_true (by omega)
      have d2 : decide ((i : Int) < 150) = true := decide_eq_true (by omega)
      obtain ⟨L, T, W, hF, B, hT2⟩ := st.out
      have hO2 := hO.out.below B
      obtain ⟨pb, po, rfl⟩ := hO2.addr hlt.1
      have rg := hO2.range hlt.1
      have cd := Lib.hid (do_any hF hT2 (by omega) (F i) (hO2 i hlt.1).1)
      have d3 : 0 ≤ (i : Int) ∧ (i : Int) < (len : Int) := by omega
      replace hF := Lib.hid hF
      replace B := Lib.hid B
      replace hT2 := Lib.hid hT2
      replace hO2 := Lib.hid hO2
      replace st := Lib.hid st
      replace rg := Lib.hid rg
      go_wp2_with (refine wpList_load_mid (by rfl) 36 (.tmp 34) rfl pb (po + i * 5) rfl (F i).cells _ rg.out Tryd.underlying36 rfl (infoOp17 (F i)) ?_)
      refine cd.out.mono ?_
      rintro e w2 ⟨x, E, L2, T2, W2, rfl, hF2, U2, R2⟩
      have B2 := six_low B.out U2 g0 g1 g2 g3 g4 g5
      have hT3 := hT.out.below B2
      clear cd hF B hT2 hO2 rg st U2 R2
      replace hF2 := Lib.hid hF2
      replace B2 := Lib.hid B2
      replace hT3 := Lib.hid hT3
      go_wp2_with fail
      go_loopw [9, 6] (fun ev tv wr => ∃ k : Nat, k ≤ 30 ∧ ev = .int .u32 (k : Int) ∧ tv = .int .i64 (tk L2 k : Int) ∧ Hid (OwnF wr ob b rb rw_ rm wb 30 (i + 1) L2 T2 W2) ∧ Hid (Below w.heap.size w wr) ∧ Hid (TabAt wr)) (fun ev _ _ => 30 - (intOf ev).toNat)
      case atStart => exact ⟨0, by decide, rfl, rfl, hF2, B2, hT3⟩
      case round =>
        clear hF2 B2 hT3
        obtain ⟨k, hk, rfl, rfl, hF, B, hT2⟩ := hrel
        by_cases hkl : k < 30
        · have d4 : decide ((k : Int) < 30) = true := decide_eq_true (by omega)
          have d5 : IntKind.u32.wrap ((k : Int) + 1) = (k : Int) + 1 := IntWalk.u32_in _ (by omega)
          have ct := etimes_any hF.out.f k (by omega)
          rw [timesI_lt hkl] at ct
          have q0 := hF.out.o0
          have et : tk L2 (k + 1) = tk L2 k + (if 0 < L2 k then 1 else 0) := rfl
          have tl : tk L2 k ≤ k := tk_le L2 k
          generalize L2 k = v at *
          have d6 : IntKind.i64.wrap ((tk L2 k : Int) + 1) = (tk L2 k : Int) + 1 := IntWalk.i64_in _ (by omega)
          replace hF := Lib.hid hF
          replace B := Lib.hid B
          replace hT2 := Lib.hid hT2
          replace ct := Lib.hid ct
          by_cases hv : 0 < v
          · have d7 : decide ((v : Int) > 0) = true := decide_eq_true (by omega)
            rw [if_pos hv] at et
            replace et := Lib.hid et
            go_wp2_with fail
            refine ct.out.mono ?_
            rintro e _ ⟨rfl, rfl⟩
            go_wp2_with fail
            go_roundw
            case rel => exact ⟨k + 1, by omega, by go_num, by rw [et.out]; go_num, hF, B, hT2⟩
            case measure => simp [intOf]; omega
          · have d7 : decide ((v : Int) > 0) = false := decide_eq_false (by omega)
            rw [if_neg hv] at et
            replace et := Lib.hid et
            go_wp2_with fail
            refine ct.out.mono ?_
            rintro e _ ⟨rfl, rfl⟩
            go_wp2_with fail
            go_roundw
            case rel => exact ⟨k + 1, by omega, by go_num, by rw [et.out]; go_num, hF, B, hT2⟩
            case measure => simp [intOf]; omega
        · obtain rfl : k = 30 := by omega
          simp only [show ((30 : Nat) : Int) = 30 from rfl]
          replace hF := Lib.hid hF
          replace B := Lib.hid B
          replace hT2 := Lib.hid hT2
          go_wp2_with fail
          go_loopw [10, 7, 8] (fun kv cv rv wr => ∃ k : Nat, 1 ≤ k ∧ k ≤ 9 ∧ kv = .int .i64 (k : Int) ∧ cv = .int .i64 (sumC T2 k : Int) ∧ rv = .int .i64 (sumR T2 k : Int) ∧ Hid (OwnF wr ob b rb rw_ rm wb 30 (i + 1) L2 T2 W2) ∧ Hid (Below w.heap.size w wr) ∧ Hid (TabAt wr)) (fun kv _ _ _ => 9 - (intOf kv).toNat)
          case atStart =>
            have z := hF.out.f.good.zero
            refine ⟨1, by decide, by decide, rfl, ?_, ?_, hF, B, hT2⟩
            · unfold sumC sumC; rw [z]; rfl
            · unfold sumR sumR; rw [z]; rfl
          case round =>
            have g := hF.out.f.good
            clear hF B hT2
            obtain ⟨k, k1, k9, rfl, rfl, rfl, hF, B, hT2⟩ := hrel
            have hs := g.sums
            have hfit := g.fits
            by_cases hkl : k ≤ 8
            · have d4 : decide ((k : Int) ≤ 8) = true := decide_eq_true (by omega)
              have q0 := hF.out.o0
              have hl := g.lim k
              have hoff := g.off k
              have cl := elimits_any hF.out.f k
              have cc := fun x (hx : FieldAt x b rb rw_ rm 30 (i + 1) L2 T2) => echarge_any hx k
              have ek := isIn_nat (T := T2) k1 (by omega : k < 9)
              unfold limR limQ at cl
              unfold chargeI at cc
              rw [ek, Int.toNat_natCast] at cl cc
              have es : sumC T2 (k + 1) = sumC T2 k + (T2 k).c := rfl
              have er : sumR T2 (k + 1) = sumR T2 k + (T2 k).r := rfl
              have hsk := hs (k + 1)
              have mon : sumA T2 (k + 1) ≤ 30 := sumA_le T2 hfit (by omega)
              have hsk0 := hs k
              have mon0 : sumA T2 k ≤ 30 := sumA_le T2 hfit (by omega)
              have hm2 : ∀ x, Below wr.heap.size wr x → OwnF x ob b rb rw_ rm wb 30 (i + 1) L2 T2 W2 ∧ Below w.heap.size w x ∧ TabAt x := fun x hx => ⟨hF.out.below hx, B.out.trans (hx.mono B.out.size), hT2.out.below hx⟩
              have q0' := fun x (hx : OwnF x ob b rb rw_ rm wb 30 (i + 1) L2 T2 W2) => hx.o0
              clear hs hfit g
              cases hon : (T2 k).on with
              | true =>
                rw [hon, if_pos rfl, if_pos rfl] at cl
                rw [hon, if_pos rfl] at cc
                have d5 : decide (((T2 k).c : Int) < 0) = false := decide_eq_false (by omega)
                have d6 : decide (((T2 k).c : Int) > ((T2 k).q : Int)) = false := decide_eq_false (by omega)
                have d6' : decide ((T2 k).q < (T2 k).c) = false := decide_eq_false (by omega)
                have d6n : ¬ (T2 k).q < (T2 k).c := by omega
                have d7 : IntKind.i64.wrap ((sumC T2 k : Int) + ((T2 k).c : Int)) = (sumC T2 k : Int) + ((T2 k).c : Int) := IntWalk.i64_in _ (by omega)
                have d8 : IntKind.i64.wrap ((sumR T2 k : Int) + ((T2 k).r : Int)) = (sumR T2 k : Int) + ((T2 k).r : Int) := IntWalk.i64_in _ (by omega)
                clear hl hoff ek hsk mon hsk0 mon0
                replace hF := Lib.hid hF
                replace B := Lib.hid B
                replace hT2 := Lib.hid hT2
                replace cl := Lib.hid cl
                replace cc := Lib.hid cc
                replace es := Lib.hid es
                replace er := Lib.hid er
                replace hm2 := Lib.hid hm2
                replace q0' := Lib.hid q0'
                replace hon := Lib.hid hon
                go_wp2_with fail
                refine cl.out.mono ?_
                rintro e w3 ⟨rfl, B3⟩
                obtain ⟨hF3, B3', hT3⟩ := hm2.out _ B3
                have q1 := hF3.o0
                clear B3 cl
                replace hF3 := Lib.hid hF3
                replace B3' := Lib.hid B3'
                replace hT3 := Lib.hid hT3
                go_wp2_with fail
                refine (cc.out _ hF3.out.f).mono ?_
                rintro e _ ⟨rfl, rfl⟩
                go_wp2_with fail
                go_roundw
                case rel => exact ⟨k + 1, by omega, by omega, by go_num, by rw [es.out]; go_num, by rw [er.out]; go_num, hF3, B3', hT3⟩
                case measure => simp [intOf]; omega
              | false =>
                have eno := hoff hon
                rw [hon, if_neg (by decide), if_neg (by decide)] at cl
                rw [hon, if_neg (by decide)] at cc
                rw [eno] at es er
                have d7 : IntKind.i64.wrap ((sumC T2 k : Int) + 0) = (sumC T2 k : Int) := by rw [Int.add_zero]; exact IntWalk.i64_in _ (by omega)
                have d8 : IntKind.i64.wrap ((sumR T2 k : Int) + 0) = (sumR T2 k : Int) := by rw [Int.add_zero]; exact IntWalk.i64_in _ (by omega)
                have d7' : IntKind.i64.wrap (sumC T2 k : Int) = (sumC T2 k : Int) := IntWalk.i64_in _ (by omega)
                have d8' : IntKind.i64.wrap (sumR T2 k : Int) = (sumR T2 k : Int) := IntWalk.i64_in _ (by omega)
                clear hl hoff ek hsk mon hsk0 mon0
                replace hF := Lib.hid hF
                replace B := Lib.hid B
                replace hT2 := Lib.hid hT2
                replace cl := Lib.hid cl
                replace cc := Lib.hid cc
                replace es := Lib.hid es
                replace er := Lib.hid er
                replace hm2 := Lib.hid hm2
                replace q0' := Lib.hid q0'
                replace hon := Lib.hid hon
                replace eno := Lib.hid eno
                go_wp2_with fail
                refine cl.out.mono ?_
                rintro e w3 ⟨rfl, B3⟩
                obtain ⟨hF3, B3', hT3⟩ := hm2.out _ B3
                have q1 := hF3.o0
                clear B3 cl
                replace hF3 := Lib.hid hF3
                replace B3' := Lib.hid B3'
                replace hT3 := Lib.hid hT3
                go_wp2_with fail
                refine (cc.out _ hF3.out.f).mono ?_
                rintro e _ ⟨rfl, rfl⟩
                go_wp2_with fail
                go_roundw
                case rel => exact ⟨k + 1, by omega, by omega, by go_num, by rw [es.out]; rfl, by rw [er.out]; rfl, hF3, B3', hT3⟩
                case measure => simp [intOf]; omega
            · obtain rfl : k = 9 := by omega
              have e9 := g.taken
              have d5 : ((tk L2 30 : Int) != (sumC T2 9 : Int)) = false := by rw [e9]; simp
              have d5' : ((tk L2 30 : Int) == (sumC T2 9 : Int)) = true := by rw [e9]; simp
              have d6 : decide ((sumR T2 9 : Int) > 30) = false := decide_eq_false (by have := (hs 9).2; omega)
              have cs := eslack_any hF.out.f
              have q0 := hF.out.o0
              obtain ⟨z, ez⟩ : ∃ z : Int, z = ((30 : Nat) : Int) - (sumA T2 9 : Int) := ⟨_, rfl⟩
              rw [← ez] at cs
              have d7 : decide (z < 0) = false := decide_eq_false (by omega)
              have hm2 : ∀ x, Below wr.heap.size wr x → OwnF x ob b rb rw_ rm wb 30 (i + 1) L2 T2 W2 ∧ Below w.heap.size w x ∧ TabAt x := fun x hx => ⟨hF.out.below hx, B.out.trans (hx.mono B.out.size), hT2.out.below hx⟩
              clear ez e9 hs hfit g
              simp only [show ((9 : Nat) : Int) = 9 from rfl]
              replace hF := Lib.hid hF
              replace B := Lib.hid B
              replace hT2 := Lib.hid hT2
              replace cs := Lib.hid cs
              replace hm2 := Lib.hid hm2
              go_wp2_with fail
              refine cs.out.mono ?_
              rintro e w3 ⟨rfl, B3⟩
              obtain ⟨hF3, B3', hT3⟩ := hm2.out _ B3
              have st3 : SumSt w w3 ob b rb rw_ rm wb (i + 1) := ⟨_, _, _, hF3, B3', hT3⟩
              clear B3 hF3 hT3 B3' cs
              replace st3 := Lib.hid st3
              go_wp2_with fail
              go_roundw
              case rel => exact ⟨i + 1, by omega, by omega, by go_num, st3⟩
              case measure => simp [intOf]; omega
    · have dd : (decide ((i : Int) < (len : Int)) = false ∧ ¬ i < len) ∨ (decide ((i : Int) < (len : Int)) = true ∧ decide ((i : Int) < 150) = false ∧ ¬ i < 150 ∧ i < len) := by
        by_cases h : i < len
        · exact .inr ⟨decide_eq_true (by omega), decide_eq_false (by omega), by omega, h⟩
        · exact .inl ⟨decide_eq_false (by omega), h⟩
      obtain ⟨L, T, W, hF, B, hT2⟩ := st.out
      have al := alive_any17 wr hT2
      clear hF hT2 hlt
      replace B := Lib.hid B
      replace al := Lib.hid al
      replace st := Lib.hid st
      rcases dd with ⟨d1, d1n⟩ | ⟨d1, d2, d2n, d1n⟩
      · go_wp2_with fail
        refine al.out.mono ?_
        rintro e w3 ⟨rfl, B3⟩
        go_wp2_with fail
        go_ret
        exact ⟨rfl, B.out.trans (B3.mono B.out.size)⟩
      · go_wp2_with fail
        refine al.out.mono ?_
        rintro e w3 ⟨rfl, B3⟩
        go_wp2_with fail
        go_ret
        exact ⟨rfl, B.out.trans (B3.mono B.out.size)⟩
end Go.Proofs.YtjhfoddhpmmjoaaDoor
