/-
  The reference's gf: Mul, Power, Inverse. Conditions: bytes below 256.
-/
import Derived.Test.YtnadgjlmlnhknaaGf
import Derived.Test.YtnadgjlmlnhknaaGfRefPlain
namespace Go.Proofs.Ytnadgjlmlnhknaa
open Go.RowKit

theorem i64_xor_nat (a b : Nat) (ha : a < 1073741824) (hb : b < 1073741824) : bits .xor .i64 (a : Int) (b : Int) = ((a ^^^ b : Nat) : Int) := by
  have hx : a ^^^ b < 2 ^ 30 := Nat.xor_lt_two_pow ha hb
  show IntKind.i64.wrap ((BitVec.ofInt 64 (a : Int) ^^^ BitVec.ofInt 64 (b : Int)).toNat : Int) = _
  rw [BitVec.toNat_xor, ofInt_u64 a (by omega), ofInt_u64 b (by omega), IntWalk.i64_in _ (by omega)]
theorem clTo_lt {a : Nat} (ha : a < 256) (b : Nat) : ∀ i, i ≤ 8 → clTo a b i < 2 ^ 16
  | 0, _ => show 0 < 2 ^ 16 by decide
  | i + 1, hi => by
    have ih := clTo_lt ha b i (by omega)
    have h2 : a * 2 ^ i < 2 ^ 16 := by
      have h3 : 2 ^ i ≤ 2 ^ 7 := Nat.pow_le_pow_right (by decide) (by omega)
      calc a * 2 ^ i ≤ 255 * 2 ^ 7 := Nat.mul_le_mul (by omega) h3
        _ < 2 ^ 16 := by decide
    unfold clTo
    split
    · exact Nat.xor_lt_two_pow ih h2
    · exact ih
theorem redTo_lt {p : Nat} (hp : p < 2 ^ 16) : ∀ k, k ≤ 7 → redTo p k < 2 ^ 16
  | 0, _ => hp
  | k + 1, hk => by
    have ih := redTo_lt hp k (by omega)
    have h2 : 283 * 2 ^ (6 - k) < 2 ^ 16 := by
      have h3 : 2 ^ (6 - k) ≤ 2 ^ 6 := Nat.pow_le_pow_right (by decide) (by omega)
      calc 283 * 2 ^ (6 - k) ≤ 283 * 2 ^ 6 := Nat.mul_le_mul_left _ h3
        _ < 2 ^ 16 := by decide
    unfold redTo
    split
    · exact Nat.xor_lt_two_pow ih h2
    · exact ih
theorem clTo_succ (a b i : Nat) : clTo a b (i + 1) = if b / 2 ^ i % 2 = 1 then clTo a b i ^^^ a * 2 ^ i else clTo a b i := rfl
theorem redTo_succ (p k : Nat) : redTo p (k + 1) = if redTo p k / 2 ^ (14 - k) % 2 = 1 then redTo p k ^^^ 283 * 2 ^ (6 - k) else redTo p k := rfl
theorem rmul_def (a b : Nat) : rmul a b = redTo (clTo a b 8) 7 % 256 := rfl
theorem clTo_zero (a b : Nat) : clTo a b 0 = 0 := rfl
theorem redTo_zero (p : Nat) : redTo p 0 = p := rfl
theorem par_eq {y : Nat} : (((y % 2 : Nat) : Int) == 1) = decide (y % 2 = 1) := by
  rw [Bool.eq_iff_iff, beq_iff_eq, decide_eq_true_iff]; omega

theorem meas_lt {a b : Nat} (h : a < b) : (intOf (.int .i64 (a : Int))).toNat < (intOf (.int .i64 (b : Int))).toNat := by
  show (a : Int).toNat < (b : Int).toNat
  omega
theorem pow14 : ∀ k, k < 7 → 2 ^ (14 - k) ≤ 16384 ∧ 256 ≤ 2 ^ (14 - k) ∧ 2 ^ (14 - k) / 256 = 2 ^ (6 - k) ∧ 2 ^ (14 - k) / 2 = 2 ^ (14 - (k + 1)) := by decide
set_option maxHeartbeats 1000000 in
set_option maxRecDepth 100000 in
theorem rmul_any (a b : Nat) (w : World) (ha : a < 256) (hb : b < 256) :
    Calls Try.prog 65 #[.int .u8 a, .int .u8 b] w fun e w' => e = .returned (.int .u8 (gmul a b)) ∧ w = w' := by
  rw [← rmul_eq ha hb]
  obtain ⟨R, hR⟩ : ∃ R, R = rmul a b := ⟨_, rfl⟩
  rw [← hR]
  replace hR := Lib.hid hR
  go_enter Try.func65, Try.ntmps65
  go_wp2_with fail
  go_loop [5, 6, 7] (fun pv wv iv => ∃ i p q : Nat, i ≤ 8 ∧ p = clTo a b i ∧ q = 2 ^ i ∧ pv = .int .i64 p ∧ wv = .int .i64 q ∧ iv = .int .i64 i) (fun _ _ iv => 8 - (intOf iv).toNat)
  case atStart => exact ⟨0, 0, 1, by decide, (clTo_zero a b).symm, by simp, rfl, rfl, rfl⟩
  case round =>
    obtain ⟨i, p, q, hi, hp, hq, rfl, rfl, rfl⟩ := hrel
    by_cases hlt : i < 8
    · have lp : p < 65536 := by rw [hp]; exact clTo_lt ha b i (by omega)
      have lq : q ≤ 128 := by rw [hq]; exact Nat.pow_le_pow_right (n := 2) (by decide) (show i ≤ 7 by omega)
      have lq0 : 0 < q := by rw [hq]; exact Nat.pow_pos (by decide)
      have laq : a * q ≤ 255 * 128 := Nat.mul_le_mul (by omega) lq
      have hdv : b / q ≤ b := Nat.div_le_self _ _
      have e1 : ((b : Int)) / (q : Int) = ((b / q : Nat) : Int) := by simp
      have e4 : (a : Int) * (q : Int) = ((a * q : Nat) : Int) := by simp
      have ex := i64_xor_nat p (a * q) (by omega) (by omega)
      have nq : 2 * q = 2 ^ (i + 1) := by rw [hq, Nat.pow_succ]; omega
      have np : clTo a b (i + 1) = if b / q % 2 = 1 then p ^^^ a * q else p := by rw [clTo_succ, ← hp, ← hq]
      have lx : p ^^^ (a * q) < 65536 := Nat.xor_lt_two_pow (n := 16) lp (by omega)
      have q0 : ((q : Int) == 0) = false := beq_eq_false_iff_ne.2 (by omega)
      have q1 : ¬ ((q : Int) = 0) := by omega
      generalize b / q = c at *
      generalize a * q = m at *
      generalize p ^^^ m = x at *
      have e2 : ((c : Int)).tmod 2 = ((c % 2 : Nat) : Int) := by rw [Int.tmod_eq_emod_of_nonneg (by omega)]; omega
      have e3 : wrap64 (c : Int) = (c : Int) := IntWalk.wrap64_in _ (by omega)
      have e5 : wrap64 (m : Int) = (m : Int) := IntWalk.wrap64_in _ (by omega)
      have e10 : wrap64 (2 * (q : Int)) = ((2 * q : Nat) : Int) := by rw [IntWalk.wrap64_in _ (by omega)]; omega
      have ev := @par_eq c
      by_cases hy : c % 2 = 1
      · rw [if_pos hy] at np
        rw [decide_eq_true hy] at ev
        generalize c % 2 = y at *
        clear q0 hdv lx laq
        replace hp := Lib.hid hp
        replace hq := Lib.hid hq
        replace np := Lib.hid np
        replace nq := Lib.hid nq
        replace hy := Lib.hid hy
        replace lq0 := Lib.hid lq0
        replace lq := Lib.hid lq
        replace lp := Lib.hid lp
        go_wp2_with fail
        go_round
        case rel => exact ⟨i + 1, x, 2 * q, by omega, np.out.symm, nq.out, rfl, by rw [e10], by go_num⟩
        case measure => simp [intOf]; omega
      · rw [if_neg hy] at np
        rw [decide_eq_false hy] at ev
        generalize c % 2 = y at *
        clear q0 hdv lx laq
        replace hp := Lib.hid hp
        replace hq := Lib.hid hq
        replace np := Lib.hid np
        replace nq := Lib.hid nq
        replace hy := Lib.hid hy
        replace lq0 := Lib.hid lq0
        replace lq := Lib.hid lq
        replace lp := Lib.hid lp
        go_wp2_with fail
        go_round
        case rel => exact ⟨i + 1, p, 2 * q, by omega, np.out.symm, nq.out, rfl, by rw [e10], by go_num⟩
        case measure => simp [intOf]; omega
    · obtain rfl : i = 8 := by omega
      have l0 : p < 65536 := by rw [hp]; exact clTo_lt ha b 8 (Nat.le_refl _)
      have hP : rmul a b = redTo p 7 % 256 := by rw [rmul_def, ← hp]
      rw [← hR.out] at hP
      generalize p = P at *
      replace hP := Lib.hid hP
      replace hp := Lib.hid hp
      replace hq := Lib.hid hq
      go_wp2_with fail
      go_loop [5, 6] (fun pv wv => ∃ k p q : Nat, k ≤ 7 ∧ p = redTo P k ∧ q = 2 ^ (14 - k) ∧ pv = .int .i64 p ∧ wv = .int .i64 q) (fun _ wv => (intOf wv).toNat)
      case atStart => exact ⟨0, P, 16384, by decide, (redTo_zero P).symm, by simp, rfl, rfl⟩
      case round =>
        obtain ⟨k, p, q, hk, hp, hq, rfl, rfl⟩ := hrel
        have lp : p < 65536 := by rw [hp]; exact redTo_lt l0 k hk
        by_cases hlt : k < 7
        · obtain ⟨lq, lq0, h6, nq⟩ := pow14 k hlt
          rw [← hq] at lq lq0 h6 nq
          have hdv : p / q ≤ p := Nat.div_le_self _ _
          have e1 : ((p : Int)) / (q : Int) = ((p / q : Nat) : Int) := by simp
          have np : redTo P (k + 1) = if p / q % 2 = 1 then p ^^^ 283 * (q / 256) else p := by rw [redTo_succ, ← hp, ← hq, h6]
          have ex := i64_xor_nat p (283 * (q / 256)) (by omega) (by omega)
          have e6 : (q : Int) / 256 = ((q / 256 : Nat) : Int) := by omega
          have e7 : IntKind.i64.wrap (283 * ((q / 256 : Nat) : Int)) = ((283 * (q / 256) : Nat) : Int) := by rw [IntWalk.i64_in _ (by omega)]; omega
          have e7'' : wrap64 (283 * ((q / 256 : Nat) : Int)) = ((283 * (q / 256) : Nat) : Int) := by rw [IntWalk.wrap64_in _ (by omega)]; omega
          have e13 : wrap64 ((283 * (q / 256) : Nat) : Int) = ((283 * (q / 256) : Nat) : Int) := IntWalk.wrap64_in _ (by omega)
          have e7' : 283 * ((q / 256 : Nat) : Int) = ((283 * (q / 256) : Nat) : Int) := by omega
          have e8 : (q : Int) / 2 = ((q / 2 : Nat) : Int) := by omega
          have q0 : ((q : Int) == 0) = false := beq_eq_false_iff_ne.2 (by omega)
          have q1 : ¬ ((q : Int) = 0) := by omega
          have hq2 : q / 2 < q := by omega
          have g2 : decide ((q : Int) ≥ 256) = true := decide_eq_true (by omega)
          generalize p / q = c at *
          generalize 283 * (q / 256) = m at *
          have hz0 : q / 256 ≤ q := Nat.div_le_self _ _
          generalize q / 256 = z at *
          generalize q / 2 = q' at *
          generalize p ^^^ m = x at *
          have e2 : ((c : Int)).tmod 2 = ((c % 2 : Nat) : Int) := by rw [Int.tmod_eq_emod_of_nonneg (by omega)]; omega
          have e3 : wrap64 (c : Int) = (c : Int) := IntWalk.wrap64_in _ (by omega)
          have e12 : wrap64 (z : Int) = (z : Int) := IntWalk.wrap64_in _ (by omega)
          have e11 : wrap64 (q' : Int) = (q' : Int) := IntWalk.wrap64_in _ (by omega)
          have ev := @par_eq c
          by_cases hy : c % 2 = 1
          · rw [if_pos hy] at np
            rw [decide_eq_true hy] at ev
            generalize c % 2 = y at *
            clear q0 hdv hz0
            replace hp := Lib.hid hp
            replace hq := Lib.hid hq
            replace np := Lib.hid np
            replace nq := Lib.hid nq
            replace hy := Lib.hid hy
            replace h6 := Lib.hid h6
            replace lq := Lib.hid lq
            replace lp := Lib.hid lp
            go_wp2_with fail
            go_round
            case rel => exact ⟨k + 1, x, q', by omega, np.out.symm, nq.out, by simp only [ex], by rw [e11]⟩
            case measure =>
              rw [e11]
              exact meas_lt hq2
          · rw [if_neg hy] at np
            rw [decide_eq_false hy] at ev
            generalize c % 2 = y at *
            clear q0 hdv hz0
            replace hp := Lib.hid hp
            replace hq := Lib.hid hq
            replace np := Lib.hid np
            replace nq := Lib.hid nq
            replace hy := Lib.hid hy
            replace h6 := Lib.hid h6
            replace lq := Lib.hid lq
            replace lp := Lib.hid lp
            go_wp2_with fail
            go_round
            case rel => exact ⟨k + 1, p, q', by omega, np.out.symm, nq.out, rfl, by rw [e11]⟩
            case measure =>
              rw [e11]
              exact meas_lt hq2
        · obtain rfl : k = 7 := by omega
          have e128 : q = 128 := by rw [hq]
          subst e128
          have eR : R = p % 256 := by rw [hP.out, hp]
          have e9 : IntKind.u8.wrap (p : Int) = (R : Int) := by rw [eR, IntKind.wrap_u8]; omega
          replace hp := Lib.hid hp
          replace eR := Lib.hid eR
          go_wp2_with fail
          go_ret
          exact ⟨rfl, rfl⟩
end Go.Proofs.Ytnadgjlmlnhknaa
