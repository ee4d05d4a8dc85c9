/-
  gf's double, Mul, Power, Inverse, Box: what they answer of bytes. Conditions: bytes below 256; the power from 0 to 255.
  The reference's gf: Mul, Power, Inverse. Conditions: bytes below 256.
-/
import Derived.Test.YtecmagenlbnchaaProg
import Derived.Test.YtecmagenlbnchaaQRowB
import Derived.Test.YtecmagenlbnchaaQGfRefPlain
import Derived.IntWalk
namespace Go.Proofs.Ytecmagenlbnchaa
set_option maxRecDepth 100000
open Go.RowKit

theorem dbl_hi {a : Nat} (h : 128 ≤ a) : bits .xor .u8 ((a : Int) * 2 % 256) 27 = (gdbl a : Int) := by
  have e : (a : Int) * 2 % 256 = ((2 * a % 256 : Nat) : Int) := by omega
  rw [e, show (27 : Int) = ((27 : Nat) : Int) from rfl, u8_xor_nat _ _ (Nat.mod_lt _ (by decide)) (by decide)]
  unfold gdbl
  rw [if_pos h]
theorem dbl_lo {a : Nat} (h : ¬ 128 ≤ a) : (a : Int) * 2 = (gdbl a : Int) := by
  unfold gdbl
  rw [if_neg h]
  omega

set_option maxRecDepth 100000 in
theorem double_any (a : Nat) (w : World) (ha : a < 256) :
    Calls Try.prog 100 #[.int .u8 a] w fun e w' => e = .returned (.int .u8 (gdbl a)) ∧ w = w' := by
  go_enter Try.func100, Try.ntmps100
  by_cases h : 128 ≤ a
  · have d : decide ((a : Int) ≥ 128) = true := decide_eq_true (by omega)
    go_wp2_with fail
    go_ret
    exact ⟨ret_int (dbl_hi h), rfl⟩
  · have d : decide ((a : Int) ≥ 128) = false := decide_eq_false (by omega)
    go_wp2_with fail
    go_ret
    exact ⟨ret_int (dbl_lo h), rfl⟩

theorem rot8_val (b k s : Nat) (hb : b < 256) (h1 : k + s = 8) (hk : 1 ≤ k) : bits .or .u8 ((b : Int) * (2 : Int) ^ k % 256) ((b : Int) / (2 : Int) ^ s) = (rotl8 b k : Int) := by
  have e1 : ((b : Int) * (2 : Int) ^ k % 256) = ((b * 2 ^ k % 256 : Nat) : Int) := by simp
  have e2 : ((b : Int) / (2 : Int) ^ s) = ((b / 2 ^ s : Nat) : Int) := by simp
  rw [e1, e2, u8_or_nat _ _ (Nat.mod_lt _ (by decide)) (Nat.lt_of_le_of_lt (Nat.div_le_self _ _) hb)]
  unfold rotl8
  rw [show 8 - k = s by omega]

set_option maxRecDepth 100000 in
theorem rot8_core (b k s : Nat) (w : World) (h1 : 1 ≤ k) (h2 : k ≤ 7) (hks : k + s = 8) (hs : bits .and .u64 (k : Int) 7 = (k : Int)) (hv : Hid (bits .or .u8 ((b : Int) * (2 : Int) ^ k % 256) ((b : Int) / (2 : Int) ^ s) = (rotl8 b k : Int))) :
    Calls Try.prog 110 #[.int .u8 b, .int .i64 k] w fun e w' => e = .returned (.int .u8 (rotl8 b k)) ∧ w = w' := by
  have h8 : (8 : Int) - (k : Int) = (s : Int) := by omega
  go_enter Try.func110, Try.ntmps110
  go_wp2
  go_ret
  exact ⟨ret_int hv.out, rfl⟩
theorem rot8_any (b k : Nat) (w : World) (hb : b < 256) (h1 : 1 ≤ k) (h2 : k ≤ 7) :
    Calls Try.prog 110 #[.int .u8 b, .int .i64 k] w fun e w' => e = .returned (.int .u8 (rotl8 b k)) ∧ w = w' :=
  rot8_core b k (8 - k) w h1 h2 (by omega) (by
    rw [show (7 : Int) = ((7 : Nat) : Int) from rfl, u64_and_nat _ _ (by omega) (by decide)]
    have : ∀ j, j < 8 → j &&& 7 = j := by decide
    rw [this k (by omega)]) (Lib.hid (rot8_val b k (8 - k) hb (by omega) h1))

theorem u8_and1 (c : Nat) (hc : c < 256) : bits .and .u8 (c : Int) 1 = ((c % 2 : Nat) : Int) := by
  rw [show (1 : Int) = ((1 : Nat) : Int) from rfl, u8_and_nat c 1 hc (by decide), Nat.and_one_is_mod]
theorem i64_and1 (c : Nat) (hc : c < 256) : bits .and .i64 (c : Int) 1 = ((c % 2 : Nat) : Int) := by
  have h : (List.range 256).all (fun c => bits .and .i64 (c : Int) 1 == ((c % 2 : Nat) : Int)) = true := by decide +kernel
  exact eq_of_beq (of_all h hc)
theorem even_or {y : Nat} : ((((y % 2 : Nat) : Int)) == 1) = decide (y % 2 = 1) := by
  rw [Bool.eq_iff_iff, beq_iff_eq, decide_eq_true_iff]; omega

set_option maxRecDepth 100000 in
theorem gmul_any (a b : Nat) (w : World) (ha : a < 256) (hb : b < 256) :
    Calls Try.prog 89 #[.int .u8 a, .int .u8 b] w fun e w' => e = .returned (.int .u8 (gmul a b)) ∧ w = w' := by
  obtain ⟨R, hR⟩ : ∃ R, R = gmul a b := ⟨_, rfl⟩
  rw [← hR]
  replace hR := Lib.hid hR
  go_enter Try.func89, Try.ntmps89
  go_wp2_with fail
  go_loop [0, 1, 5, 6] (fun x y o i => ∃ n X Y O : Nat, n ≤ 8 ∧ X < 256 ∧ Y < 256 ∧ O < 256 ∧ x = .int .u8 X ∧ y = .int .u8 Y ∧ o = .int .u8 O ∧ i = .int .i64 n ∧ gmulTo (8 - n) O X Y = R) (fun _ _ _ i => 8 - (intOf i).toNat)
  case atStart => exact ⟨0, a, b, 0, Nat.zero_le _, ha, hb, by decide, rfl, rfl, rfl, rfl, hR.out.symm⟩
  case round =>
    obtain ⟨n, X, Y, O, hn, hX, hY, hO, rfl, rfl, rfl, rfl, he⟩ := hrel
    by_cases hlt : n < 8
    · have eb := u8_and1 Y hY
      have ed := Lib.hid (double_any X · hX)
      have e2 : (Y : Int) / 2 = ((Y / 2 : Nat) : Int) := by omega
      have e0 : gmulTo (8 - (n + 1)) (if Y % 2 = 1 then O ^^^ X else O) (gdbl X) (Y / 2) = R := by
        rw [← he, show 8 - n = 8 - (n + 1) + 1 by omega]; rfl
      have lX := gdbl_lt hX
      have lY : Y / 2 < 256 := by omega
      have ev := @even_or Y
      by_cases hy : Y % 2 = 1
      · rw [if_pos hy] at e0
        have ex := u8_xor_nat O X hO hX
        have lO := xor_lt8 hO hX
        rw [decide_eq_true hy] at ev
        generalize Y % 2 = y at *
        generalize Y / 2 = Y2 at *
        generalize O ^^^ X = O2 at *
        replace e0 := Lib.hid e0
        replace he := Lib.hid he
        replace lX := Lib.hid lX
        replace lY := Lib.hid lY
        replace lO := Lib.hid lO
        replace hy := Lib.hid hy
        go_wp2_with (go_at_call 100; refine (ed.out _).mono ?_; rintro e w2 ⟨rfl, rfl⟩)
        go_round
        case rel => exact ⟨n + 1, gdbl X, Y2, O2, by omega, lX.out, lY.out, lO.out, rfl, rfl, rfl, by go_num, e0.out⟩
        case measure => simp [intOf]; omega
      · rw [if_neg hy] at e0
        rw [decide_eq_false hy] at ev
        generalize Y % 2 = y at *
        generalize Y / 2 = Y2 at *
        replace e0 := Lib.hid e0
        replace he := Lib.hid he
        replace lX := Lib.hid lX
        replace lY := Lib.hid lY
        replace hy := Lib.hid hy
        go_wp2_with (go_at_call 100; refine (ed.out _).mono ?_; rintro e w2 ⟨rfl, rfl⟩)
        go_round
        case rel => exact ⟨n + 1, gdbl X, Y2, O, by omega, lX.out, lY.out, hO, rfl, rfl, rfl, by go_num, e0.out⟩
        case measure => simp [intOf]; omega
    · obtain rfl : n = 8 := by omega
      have e0 : O = R := he
      subst e0
      replace he := Lib.hid he
      go_wp2_with fail
      go_ret
      exact ⟨rfl, rfl⟩

set_option maxRecDepth 100000 in
theorem gpow_any (a n : Nat) (w : World) (ha : a < 256) (hn : n < 256) :
    Calls Try.prog 90 #[.int .u8 a, .int .i64 n] w fun e w' => e = .returned (.int .u8 (gpow a n)) ∧ w = w' := by
  obtain ⟨R, hR⟩ : ∃ R, R = gpow a n := ⟨_, rfl⟩
  rw [← hR]
  replace hR := Lib.hid hR
  go_enter Try.func90, Try.ntmps90
  go_wp2_with fail
  go_loop [0, 1, 5] (fun x y o => ∃ f X Y O : Nat, Y < 2 ^ f ∧ f ≤ 8 ∧ X < 256 ∧ O < 256 ∧ x = .int .u8 X ∧ y = .int .i64 Y ∧ o = .int .u8 O ∧ gpowTo f O X Y = R) (fun _ y _ => (intOf y).toNat)
  case atStart => exact ⟨8, a, n, 1, hn, Nat.le_refl _, ha, by decide, rfl, rfl, rfl, hR.out.symm⟩
  case round =>
    obtain ⟨f, X, Y, O, hf, hf8, hX, hO, rfl, rfl, rfl, he⟩ := hrel
    have hY : Y < 256 := Nat.lt_of_lt_of_le hf (Nat.pow_le_pow_right (by decide) hf8)
    by_cases hlt : 0 < Y
    · obtain ⟨g, rfl⟩ : ∃ g, f = g + 1 := by
        cases f with
        | zero => simp at hf; omega
        | succ g => exact ⟨g, rfl⟩
      have eb := i64_and1 Y hY
      have e2 : (Y : Int) / 2 = ((Y / 2 : Nat) : Int) := by omega
      have e0 : gpowTo g (if Y % 2 = 1 then gmul O X else O) (gmul X X) (Y / 2) = R := by
        rw [← he]
        show _ = (if Y = 0 then O else gpowTo g (if Y % 2 = 1 then gmul O X else O) (gmul X X) (Y / 2))
        rw [if_neg (show ¬ Y = 0 by omega)]
      have lX := gmul_lt X hX
      have lY : Y / 2 < 2 ^ g := by rw [Nat.pow_succ] at hf; omega
      have hm : Y / 2 < Y := by omega
      have hg : g ≤ 8 := by omega
      have ev := @even_or Y
      have c1 := Lib.hid (gmul_any O X · hO hX)
      have c2 := Lib.hid (gmul_any X X · hX hX)
      by_cases hy : Y % 2 = 1
      · rw [if_pos hy] at e0
        have lO := gmul_lt X hO
        rw [decide_eq_true hy] at ev
        have l2 : Y / 2 < 256 := by omega
        generalize Y % 2 = y at *
        generalize Y / 2 = Y2 at *
        replace e0 := Lib.hid e0
        replace he := Lib.hid he
        replace lX := Lib.hid lX
        replace lY := Lib.hid lY
        replace lO := Lib.hid lO
        replace hy := Lib.hid hy
        replace hf := Lib.hid hf
        go_wp2_with fail
        refine (c1.out _).mono ?_
        rintro e w2 ⟨rfl, rfl⟩
        go_wp2_with fail
        refine (c2.out _).mono ?_
        rintro e w2 ⟨rfl, rfl⟩
        go_wp2_with fail
        go_round
        case rel => exact ⟨g, gmul X X, Y2, gmul O X, lY.out, hg, lX.out, lO.out, rfl, rfl, rfl, e0.out⟩
        case measure => simp [intOf]; omega
      · rw [if_neg hy] at e0
        rw [decide_eq_false hy] at ev
        have l2 : Y / 2 < 256 := by omega
        generalize Y % 2 = y at *
        generalize Y / 2 = Y2 at *
        replace e0 := Lib.hid e0
        replace he := Lib.hid he
        replace lX := Lib.hid lX
        replace lY := Lib.hid lY
        replace hy := Lib.hid hy
        replace hf := Lib.hid hf
        go_wp2_with fail
        refine (c2.out _).mono ?_
        rintro e w2 ⟨rfl, rfl⟩
        go_wp2_with fail
        go_round
        case rel => exact ⟨g, gmul X X, Y2, O, lY.out, hg, lX.out, hO, rfl, rfl, rfl, e0.out⟩
        case measure => simp [intOf]; omega
    · obtain rfl : Y = 0 := by omega
      have e0 : O = R := by
        rw [← he]
        cases f <;> rfl
      subst e0
      replace he := Lib.hid he
      replace hf := Lib.hid hf
      go_wp2_with fail
      go_ret
      exact ⟨rfl, rfl⟩

set_option maxRecDepth 100000 in
theorem ginv_any (a : Nat) (w : World) (ha : a < 256) :
    Calls Try.prog 109 #[.int .u8 a] w fun e w' => e = .returned (.int .u8 (ginv a)) ∧ w = w' := by
  have c := Lib.hid (gpow_any a 254 w ha (by decide))
  obtain ⟨R, hR⟩ : ∃ R, R = ginv a := ⟨_, rfl⟩
  rw [← hR]
  by_cases h : a = 0
  · subst h
    have e : R = 0 := by rw [hR]; rfl
    subst e
    replace hR := Lib.hid hR
    go_enter Try.func109, Try.ntmps109
    go_wp2_with fail
    go_ret
    exact ⟨rfl, rfl⟩
  · have e : R = gpow a 254 := by rw [hR]; unfold ginv; rw [if_neg h]
    subst e
    replace hR := Lib.hid hR
    have d : ((a : Int) == 0) = false := by simpa using h
    go_enter Try.func109, Try.ntmps109
    go_wp2_with fail
    refine c.out.mono ?_
    rintro e w2 ⟨rfl, rfl⟩
    go_wp2_with fail
    go_ret
    exact ⟨rfl, rfl⟩

/-- The box after n digits turned. -/
def boxTo (b : Nat) : Nat → Nat
  | 0 => b ^^^ 99
  | n + 1 => boxTo b n ^^^ rotl8 b (n + 1)
theorem boxTo_lt {b : Nat} (hb : b < 256) : ∀ n, boxTo b n < 256
  | 0 => xor_lt8 hb (by decide)
  | n + 1 => xor_lt8 (boxTo_lt hb n) (rotl8_lt hb)

set_option maxRecDepth 100000 in
theorem gbox_any (a : Nat) (w : World) (ha : a < 256) :
    Calls Try.prog 99 #[.int .u8 a] w fun e w' => e = .returned (.int .u8 (gbox a)) ∧ w = w' := by
  have c := Lib.hid (ginv_any a w ha)
  have e4 : gbox a = boxTo (ginv a) 4 := rfl
  have hb := ginv_lt ha
  rw [e4]
  generalize ginv a = b at *
  obtain ⟨R, hR⟩ : ∃ R, R = boxTo b 4 := ⟨_, rfl⟩
  have e9 : bits .xor .u8 (b : Int) 99 = (boxTo b 0 : Int) := u8_xor_nat b 99 hb (by decide)
  rw [← hR]
  replace hR := Lib.hid hR
  replace e4 := Lib.hid e4
  go_enter Try.func99, Try.ntmps99
  go_wp2_with fail
  refine c.out.mono ?_
  rintro e w2 ⟨rfl, rfl⟩
  go_wp2_with fail
  go_loop [4, 10] (fun o i => ∃ n : Nat, n ≤ 4 ∧ o = .int .u8 (boxTo b n) ∧ i = .int .i64 n) (fun _ i => 4 - (intOf i).toNat)
  case atStart => exact ⟨0, Nat.zero_le _, rfl, rfl⟩
  case round =>
    obtain ⟨n, hn, rfl, rfl⟩ := hrel
    by_cases hlt : n < 4
    · have cr := Lib.hid (rot8_any b (n + 1) w hb (by omega) (by omega))
      have ex : bits .xor .u8 (boxTo b n : Int) (rotl8 b (n + 1) : Int) = (boxTo b (n + 1) : Int) := u8_xor_nat _ _ (boxTo_lt hb n) (rotl8_lt hb)
      go_wp2_with fail
      refine cr.out.mono ?_
      rintro e w3 ⟨rfl, rfl⟩
      go_wp2_with fail
      go_round
      case rel => exact ⟨n + 1, by omega, rfl, by go_num⟩
      case measure => simp [intOf]; omega
    · obtain rfl : n = 4 := by omega
      have e0 : boxTo b 4 = R := hR.out.symm
      rw [e0]
      go_wp2_with fail
      go_ret
      exact ⟨rfl, rfl⟩

end Go.Proofs.Ytecmagenlbnchaa
namespace Go.Proofs.Ytecmagenlbnchaa
set_option maxRecDepth 100000
open Go.RowKit

theorem i64_xor_nat (a b : Nat) (ha : a < 1073741824) (hb : b < 1073741824) : bits .xor .i64 (a : Int) (b : Int) = ((a ^^^ b : Nat) : Int) := by
  have hx : a ^^^ b < 2 ^ 30 := Nat.xor_lt_two_pow ha hb
  show IntKind.i64.wrap ((BitVec.ofInt 64 (a : Int) ^^^ BitVec.ofInt 64 (b : Int)).toNat : Int) = _
  rw [BitVec.toNat_xor, ofInt_u64 a (by omega), ofInt_u64 b (by omega), IntWalk.i64_in _ (by omega)]
theorem clTo_lt {a : Nat} (ha : a < 256) (b : Nat) : ∀ i, i ≤ 8 → clTo a b i < 2 ^ 16
  | 0, _ => show 0 < 2 ^ 16 by decide
  | i + 1, hi => by
    have ih := clTo_lt ha b i (by omega)
    have h2 : a * 2 ^ i < 2 ^ 16 := by
      have h3 : 2 ^ i ≤ 2 ^ 7 := Nat.pow_le_pow_right (by decide) (by omega)
      calc a * 2 ^ i ≤ 255 * 2 ^ 7 := Nat.mul_le_mul (by omega) h3
        _ < 2 ^ 16 := by decide
    unfold clTo
    split
    · exact Nat.xor_lt_two_pow ih h2
    · exact ih
theorem redTo_lt {p : Nat} (hp : p < 2 ^ 16) : ∀ k, k ≤ 7 → redTo p k < 2 ^ 16
  | 0, _ => hp
  | k + 1, hk => by
    have ih := redTo_lt hp k (by omega)
    have h2 : 283 * 2 ^ (6 - k) < 2 ^ 16 := by
      have h3 : 2 ^ (6 - k) ≤ 2 ^ 6 := Nat.pow_le_pow_right (by decide) (by omega)
      calc 283 * 2 ^ (6 - k) ≤ 283 * 2 ^ 6 := Nat.mul_le_mul_left _ h3
        _ < 2 ^ 16 := by decide
    unfold redTo
    split
    · exact Nat.xor_lt_two_pow ih h2
    · exact ih
theorem clTo_succ (a b i : Nat) : clTo a b (i + 1) = if b / 2 ^ i % 2 = 1 then clTo a b i ^^^ a * 2 ^ i else clTo a b i := rfl
theorem redTo_succ (p k : Nat) : redTo p (k + 1) = if redTo p k / 2 ^ (14 - k) % 2 = 1 then redTo p k ^^^ 283 * 2 ^ (6 - k) else redTo p k := rfl
theorem rmul_def (a b : Nat) : rmul a b = redTo (clTo a b 8) 7 % 256 := rfl
theorem clTo_zero (a b : Nat) : clTo a b 0 = 0 := rfl
theorem redTo_zero (p : Nat) : redTo p 0 = p := rfl
theorem par_eq {y : Nat} : (((y % 2 : Nat) : Int) == 1) = decide (y % 2 = 1) := by
  rw [Bool.eq_iff_iff, beq_iff_eq, decide_eq_true_iff]; omega

theorem meas_lt {a b : Nat} (h : a < b) : (intOf (.int .i64 (a : Int))).toNat < (intOf (.int .i64 (b : Int))).toNat := by
  show (a : Int).toNat < (b : Int).toNat
  omega
theorem pow14 : ∀ k, k < 7 → 2 ^ (14 - k) ≤ 16384 ∧ 256 ≤ 2 ^ (14 - k) ∧ 2 ^ (14 - k) / 256 = 2 ^ (6 - k) ∧ 2 ^ (14 - k) / 2 = 2 ^ (14 - (k + 1)) := by decide
set_option maxHeartbeats 1000000 in
set_option maxRecDepth 100000 in
theorem rmul_any (a b : Nat) (w : World) (ha : a < 256) (hb : b < 256) :
    Calls Try.prog 83 #[.int .u8 a, .int .u8 b] w fun e w' => e = .returned (.int .u8 (gmul a b)) ∧ w = w' := by
  rw [← rmul_eq ha hb]
  obtain ⟨R, hR⟩ : ∃ R, R = rmul a b := ⟨_, rfl⟩
  rw [← hR]
  replace hR := Lib.hid hR
  go_enter Try.func83, Try.ntmps83
  go_wp2_with fail
  go_loop [5, 6, 7] (fun pv wv iv => ∃ i p q : Nat, i ≤ 8 ∧ p = clTo a b i ∧ q = 2 ^ i ∧ pv = .int .i64 p ∧ wv = .int .i64 q ∧ iv = .int .i64 i) (fun _ _ iv => 8 - (intOf iv).toNat)
  case atStart => exact ⟨0, 0, 1, by decide, (clTo_zero a b).symm, by simp, rfl, rfl, rfl⟩
  case round =>
    obtain ⟨i, p, q, hi, hp, hq, rfl, rfl, rfl⟩ := hrel
    by_cases hlt : i < 8
    · have lp : p < 65536 := by rw [hp]; exact clTo_lt ha b i (by omega)
      have lq : q ≤ 128 := by rw [hq]; exact Nat.pow_le_pow_right (n := 2) (by decide) (show i ≤ 7 by omega)
      have lq0 : 0 < q := by rw [hq]; exact Nat.pow_pos (by decide)
      have laq : a * q ≤ 255 * 128 := Nat.mul_le_mul (by omega) lq
      have hdv : b / q ≤ b := Nat.div_le_self _ _
      have e1 : ((b : Int)) / (q : Int) = ((b / q : Nat) : Int) := by simp
      have e4 : (a : Int) * (q : Int) = ((a * q : Nat) : Int) := by simp
      have ex := i64_xor_nat p (a * q) (by omega) (by omega)
      have nq : 2 * q = 2 ^ (i + 1) := by rw [hq, Nat.pow_succ]; omega
      have np : clTo a b (i + 1) = if b / q % 2 = 1 then p ^^^ a * q else p := by rw [clTo_succ, ← hp, ← hq]
      have lx : p ^^^ (a * q) < 65536 := Nat.xor_lt_two_pow (n := 16) lp (by omega)
      have q0 : ((q : Int) == 0) = false := beq_eq_false_iff_ne.2 (by omega)
      have q1 : ¬ ((q : Int) = 0) := by omega
      generalize b / q = c at *
      generalize a * q = m at *
      generalize p ^^^ m = x at *
      have e2 : ((c : Int)).tmod 2 = ((c % 2 : Nat) : Int) := by rw [Int.tmod_eq_emod_of_nonneg (by omega)]; omega
      have e3 : wrap64 (c : Int) = (c : Int) := IntWalk.wrap64_in _ (by omega)
      have e5 : wrap64 (m : Int) = (m : Int) := IntWalk.wrap64_in _ (by omega)
      have e10 : wrap64 (2 * (q : Int)) = ((2 * q : Nat) : Int) := by rw [IntWalk.wrap64_in _ (by omega)]; omega
      have ev := @par_eq c
      by_cases hy : c % 2 = 1
      · rw [if_pos hy] at np
        rw [decide_eq_true hy] at ev
        generalize c % 2 = y at *
        clear q0 hdv lx laq
        replace hp := Lib.hid hp
        replace hq := Lib.hid hq
        replace np := Lib.hid np
        replace nq := Lib.hid nq
        replace hy := Lib.hid hy
        replace lq0 := Lib.hid lq0
        replace lq := Lib.hid lq
        replace lp := Lib.hid lp
        go_wp2_with fail
        go_round
        case rel => exact ⟨i + 1, x, 2 * q, by omega, np.out.symm, nq.out, rfl, by rw [e10], by go_num⟩
        case measure => simp [intOf]; omega
      · rw [if_neg hy] at np
        rw [decide_eq_false hy] at ev
        generalize c % 2 = y at *
        clear q0 hdv lx laq
        replace hp := Lib.hid hp
        replace hq := Lib.hid hq
        replace np := Lib.hid np
        replace nq := Lib.hid nq
        replace hy := Lib.hid hy
        replace lq0 := Lib.hid lq0
        replace lq := Lib.hid lq
        replace lp := Lib.hid lp
        go_wp2_with fail
        go_round
        case rel => exact ⟨i + 1, p, 2 * q, by omega, np.out.symm, nq.out, rfl, by rw [e10], by go_num⟩
        case measure => simp [intOf]; omega
    · obtain rfl : i = 8 := by omega
      have l0 : p < 65536 := by rw [hp]; exact clTo_lt ha b 8 (Nat.le_refl _)
      have hP : rmul a b = redTo p 7 % 256 := by rw [rmul_def, ← hp]
      rw [← hR.out] at hP
      generalize p = P at *
      replace hP := Lib.hid hP
      replace hp := Lib.hid hp
      replace hq := Lib.hid hq
      go_wp2_with fail
      go_loop [5, 6] (fun pv wv => ∃ k p q : Nat, k ≤ 7 ∧ p = redTo P k ∧ q = 2 ^ (14 - k) ∧ pv = .int .i64 p ∧ wv = .int .i64 q) (fun _ wv => (intOf wv).toNat)
      case atStart => exact ⟨0, P, 16384, by decide, (redTo_zero P).symm, by simp, rfl, rfl⟩
      case round =>
        obtain ⟨k, p, q, hk, hp, hq, rfl, rfl⟩ := hrel
        have lp : p < 65536 := by rw [hp]; exact redTo_lt l0 k hk
        by_cases hlt : k < 7
        · obtain ⟨lq, lq0, h6, nq⟩ := pow14 k hlt
          rw [← hq] at lq lq0 h6 nq
          have hdv : p / q ≤ p := Nat.div_le_self _ _
          have e1 : ((p : Int)) / (q : Int) = ((p / q : Nat) : Int) := by simp
          have np : redTo P (k + 1) = if p / q % 2 = 1 then p ^^^ 283 * (q / 256) else p := by rw [redTo_succ, ← hp, ← hq, h6]
          have ex := i64_xor_nat p (283 * (q / 256)) (by omega) (by omega)
          have e6 : (q : Int) / 256 = ((q / 256 : Nat) : Int) := by omega
          have e7 : IntKind.i64.wrap (283 * ((q / 256 : Nat) : Int)) = ((283 * (q / 256) : Nat) : Int) := by rw [IntWalk.i64_in _ (by omega)]; omega
          have e7'' : wrap64 (283 * ((q / 256 : Nat) : Int)) = ((283 * (q / 256) : Nat) : Int) := by rw [IntWalk.wrap64_in _ (by omega)]; omega
          have e13 : wrap64 ((283 * (q / 256) : Nat) : Int) = ((283 * (q / 256) : Nat) : Int) := IntWalk.wrap64_in _ (by omega)
          have e7' : 283 * ((q / 256 : Nat) : Int) = ((283 * (q / 256) : Nat) : Int) := by omega
          have e8 : (q : Int) / 2 = ((q / 2 : Nat) : Int) := by omega
          have q0 : ((q : Int) == 0) = false := beq_eq_false_iff_ne.2 (by omega)
          have q1 : ¬ ((q : Int) = 0) := by omega
          have hq2 : q / 2 < q := by omega
          have g2 : decide ((q : Int) ≥ 256) = true := decide_eq_true (by omega)
          generalize p / q = c at *
          generalize 283 * (q / 256) = m at *
          have hz0 : q / 256 ≤ q := Nat.div_le_self _ _
          generalize q / 256 = z at *
          generalize q / 2 = q' at *
          generalize p ^^^ m = x at *
          have e2 : ((c : Int)).tmod 2 = ((c % 2 : Nat) : Int) := by rw [Int.tmod_eq_emod_of_nonneg (by omega)]; omega
          have e3 : wrap64 (c : Int) = (c : Int) := IntWalk.wrap64_in _ (by omega)
          have e12 : wrap64 (z : Int) = (z : Int) := IntWalk.wrap64_in _ (by omega)
          have e11 : wrap64 (q' : Int) = (q' : Int) := IntWalk.wrap64_in _ (by omega)
          have ev := @par_eq c
          by_cases hy : c % 2 = 1
          · rw [if_pos hy] at np
            rw [decide_eq_true hy] at ev
            generalize c % 2 = y at *
            clear q0 hdv hz0
            replace hp := Lib.hid hp
            replace hq := Lib.hid hq
            replace np := Lib.hid np
            replace nq := Lib.hid nq
            replace hy := Lib.hid hy
            replace h6 := Lib.hid h6
            replace lq := Lib.hid lq
            replace lp := Lib.hid lp
            go_wp2_with fail
            go_round
            case rel => exact ⟨k + 1, x, q', by omega, np.out.symm, nq.out, by first | rfl | simp only [ex], by rw [e11]⟩
            case measure =>
              rw [e11]
              exact meas_lt hq2
          · rw [if_neg hy] at np
            rw [decide_eq_false hy] at ev
            generalize c % 2 = y at *
            clear q0 hdv hz0
            replace hp := Lib.hid hp
            replace hq := Lib.hid hq
            replace np := Lib.hid np
            replace nq := Lib.hid nq
            replace hy := Lib.hid hy
            replace h6 := Lib.hid h6
            replace lq := Lib.hid lq
            replace lp := Lib.hid lp
            go_wp2_with fail
            go_round
            case rel => exact ⟨k + 1, p, q', by omega, np.out.symm, nq.out, rfl, by rw [e11]⟩
            case measure =>
              rw [e11]
              exact meas_lt hq2
        · obtain rfl : k = 7 := by omega
          have e128 : q = 128 := by rw [hq]
          subst e128
          have eR : R = p % 256 := by rw [hP.out, hp]
          have e9 : IntKind.u8.wrap (p : Int) = (R : Int) := by rw [eR, IntKind.wrap_u8]; omega
          replace hp := Lib.hid hp
          replace eR := Lib.hid eR
          go_wp2_with fail
          go_ret
          exact ⟨rfl, rfl⟩
end Go.Proofs.Ytecmagenlbnchaa
