/-
  The reference's gf: Power, Inverse, Unbox. Conditions: bytes below 256.
-/
import Derived.Test.YtnadgjlmlnhknaaGfRef
import Derived.Test.YtnadgjlmlnhknaaRefXts
namespace Go.Proofs.Ytnadgjlmlnhknaa
open Go.RowKit

theorem rpow_lt {a : Nat} (ha : a < 256) : ∀ n, rpow a n < 256
  | 0 => show 1 < 256 by decide
  | n + 1 => Nat.mod_lt _ (by decide)
theorem rpow_succ (a n : Nat) : rpow a (n + 1) = rmul (rpow a n) a := rfl
set_option maxHeartbeats 1000000 in
set_option maxRecDepth 100000 in
theorem rpower_any (a n : Nat) (w : World) (ha : a < 256) (hn : n < 1000) :
    Calls Try.prog 45 #[.int .u8 (a : Int), .int .i64 (n : Int)] w fun e w' => e = .returned (.int .u8 (rpow a n : Int)) ∧ w = w' := by
  go_enter Try.func45, Try.ntmps45
  go_wp2_with fail
  go_loop [5, 6] (fun ov iv => ∃ k : Nat, k ≤ n ∧ ov = .int .u8 (rpow a k : Int) ∧ iv = .int .i64 k) (fun _ iv => n - (intOf iv).toNat)
  case atStart => exact ⟨0, Nat.zero_le _, rfl, rfl⟩
  case round =>
    obtain ⟨k, hk, rfl, rfl⟩ := hrel
    by_cases hlt : k < n
    · have hr := rpow_lt ha k
      have cm := Lib.hid (rmul_any (rpow a k) a w hr ha)
      rw [← rmul_eq hr ha, ← rpow_succ] at cm
      generalize rpow a k = x at *
      generalize hy : rpow a (k + 1) = y at *
      replace hr := Lib.hid hr
      replace hy := Lib.hid hy
      go_wp2_with fail
      refine cm.out.mono ?_
      rintro e w2 ⟨rfl, rfl⟩
      go_wp2_with fail
      go_round
      case rel => exact ⟨k + 1, by omega, by rw [hy.out], by go_num⟩
      case measure => simp [intOf]; omega
    · obtain rfl : k = n := by omega
      go_wp2_with fail
      go_ret
      exact ⟨rfl, rfl⟩

theorem mul_none {a : Nat} (ha : a < 256) : rmul a 0 ≠ 1 := fun h => by
  have h2 := eq_of_beq (of_all (p := fun a => rmul a 0 == 0) (by decide +kernel) ha)
  rw [h2] at h
  exact absurd h (by decide)
theorem inv_pos {a : Nat} (ha : a < 256) (h0 : a ≠ 0) : ginv a ≠ 0 := fun h => by
  have h1 := (inv_iff ha h0 (ginv_lt ha)).2 rfl
  rw [h] at h1
  exact mul_none ha h1
theorem inv_zero : ginv 0 = 0 := by unfold ginv; rw [if_pos rfl]
set_option maxHeartbeats 1000000 in
set_option maxRecDepth 100000 in
theorem rinv_any (a : Nat) (w : World) (ha : a < 256) :
    Calls Try.prog 73 #[.int .u8 (a : Int)] w fun e w' => e = .returned (.int .u8 (ginv a : Int)) ∧ w = w' := by
  obtain ⟨G, hG⟩ : ∃ G, G = ginv a := ⟨_, rfl⟩
  rw [← hG]
  replace hG := Lib.hid hG
  go_enter Try.func73, Try.ntmps73
  go_wp2_with fail
  go_loop [3] (fun iv => ∃ k : Nat, 1 ≤ k ∧ k ≤ 256 ∧ iv = .int .i64 k ∧ ∀ j, 1 ≤ j → j < k → rmul a j ≠ 1) (fun iv => 256 - (intOf iv).toNat)
  case atStart => exact ⟨1, Nat.le_refl _, by decide, rfl, fun j h1 h2 => by omega⟩
  case round =>
    obtain ⟨k, h1, hk, rfl, hno⟩ := hrel
    by_cases hlt : k < 256
    · have cm := Lib.hid (rmul_any a k w ha hlt)
      rw [← rmul_eq ha hlt] at cm
      have g1 : IntKind.u8.wrap (k : Int) = (k : Int) := by rw [IntKind.wrap_u8]; omega
      by_cases hm : rmul a k = 1
      · have e : G = k := by
          rw [hG.out]
          by_cases h0 : a = 0
          · subst h0
            rw [rmul_zero hlt] at hm
            omega
          · exact ((inv_iff ha h0 hlt).1 hm).symm
        rw [hm] at cm
        simp only [show ((1 : Nat) : Int) = 1 from rfl] at cm
        replace hno := Lib.hid hno
        replace hm := Lib.hid hm
        subst e
        go_wp2_with fail
        refine cm.out.mono ?_
        rintro e w2 ⟨rfl, rfl⟩
        go_wp2_with fail
        go_ret
        exact ⟨rfl, rfl⟩
      · have hno' : ∀ j, 1 ≤ j → j < k + 1 → rmul a j ≠ 1 := fun j j1 j2 => by
          by_cases e : j = k
          · subst e; exact hm
          · exact hno j j1 (by omega)
        have nb : ¬ ((rmul a k : Int) = 1) := by omega
        generalize rmul a k = y at *
        replace hno := Lib.hid hno
        replace hno' := Lib.hid hno'
        replace hm := Lib.hid hm
        go_wp2_with fail
        refine cm.out.mono ?_
        rintro e w2 ⟨rfl, rfl⟩
        go_wp2_with fail
        go_round
        case rel => exact ⟨k + 1, by omega, by omega, by go_num, hno'.out⟩
        case measure => simp [intOf]; omega
    · obtain rfl : k = 256 := by omega
      have e : G = 0 := by
        rw [hG.out]
        by_cases h0 : a = 0
        · rw [h0]; exact inv_zero
        · have hp := inv_pos ha h0
          have hl := ginv_lt ha
          exact absurd ((inv_iff ha h0 hl).2 rfl) (hno _ (by omega) hl)
      subst e
      simp only [show ((256 : Nat) : Int) = 256 from rfl]
      replace hno := Lib.hid hno
      go_wp2_with fail
      go_ret
      exact ⟨rfl, rfl⟩

/-- The boxes of all bytes. -/
def boxesL : List Nat := bytesOf gbox 256
set_option maxHeartbeats 1000000 in
set_option maxRecDepth 100000 in
theorem runbox_any (a : Nat) (w : World) (v : Value) (hv : TextAt w v boxesL) (ha : a < 256) :
    Calls Try.prog 43 #[v, .int .u8 (a : Int)] w fun e w' => e = .returned (.int .u8 (gunb a : Int)) ∧ w = w' := by
  obtain ⟨ao, cap, rfl, _, _, hby⟩ := hv.ex
  have lb : boxesL.length = 256 := length_bytesOf _ _
  rw [lb] at hby ⊢
  obtain ⟨_, ob, oo, rfl, _⟩ := hby 0 (by decide)
  have hc : ∀ i, i < 256 → w.cell? ⟨ob, oo + i, none⟩ = some (.int .u8 (gbox i : Int)) := fun i hi => by
    obtain ⟨_, ob', oo', e, h1⟩ := hby i hi
    cases e
    rw [show byt boxesL i = gbox i from byt_bytesOf _ hi] at h1
    exact h1
  obtain ⟨U, hU⟩ : ∃ U, U = gunb a := ⟨_, rfl⟩
  have hU2 := (unb_lt_box a ha)
  rw [← hU] at hU2 ⊢
  replace hv := Lib.hid hv
  replace hby := Lib.hid hby
  replace hc := Lib.hid hc
  replace lb := Lib.hid lb
  replace hU := Lib.hid hU
  replace hU2 := Lib.hid hU2
  go_enter Try.func43, Try.ntmps43
  go_wp2_with fail
  go_loop [5] (fun iv => ∃ k : Nat, k ≤ 256 ∧ iv = .int .i64 k ∧ ∀ j, j < k → gbox j ≠ a) (fun iv => 256 - (intOf iv).toNat)
  case atStart => exact ⟨0, by decide, rfl, fun j h2 => by omega⟩
  case round =>
    obtain ⟨k, hk, rfl, hno⟩ := hrel
    by_cases hlt : k < 256
    · have ck := hc.out k hlt
      have g1 : IntKind.u8.wrap (k : Int) = (k : Int) := by rw [IntKind.wrap_u8]; omega
      by_cases hm : gbox k = a
      · have e : U = k := by rw [hU.out]; exact ((unb_iff ha hlt).1 hm).symm
        rw [hm] at ck
        subst e
        replace hno := Lib.hid hno
        replace hm := Lib.hid hm
        go_wp2_with fail
        go_ret
        exact ⟨rfl, rfl⟩
      · have hno' : ∀ j, j < k + 1 → gbox j ≠ a := fun j j2 => by
          by_cases e : j = k
          · subst e; exact hm
          · exact hno j (by omega)
        have nb : ¬ ((gbox k : Int) = (a : Int)) := by omega
        generalize gbox k = y at *
        replace hno := Lib.hid hno
        replace hno' := Lib.hid hno'
        replace hm := Lib.hid hm
        go_wp2_with fail
        go_round
        case rel => exact ⟨k + 1, by omega, by go_num, hno'.out⟩
        case measure => simp [intOf]; omega
    · obtain rfl : k = 256 := by omega
      exact absurd hU2.out.2 (hno U hU2.out.1)
end Go.Proofs.Ytnadgjlmlnhknaa
