/-
  math/bits.TrailingZeros64 of a number that is not 0 tells the place of its last digit; the table's cells are a hypothesis on the world.
-/
import Derived.Test.YtjhfoddhpmmjoaaDoorHold
import Derived.Test.YtjhfoddhpmmjoaaDoorTzPlain
namespace Go.Proofs.YtjhfoddhpmmjoaaDoor
set_option maxRecDepth 100000
open Go.RowKit Go.Maps

/-- The library's table stands in w. -/
def TabAt (w : World) : Prop := ∀ i v : Nat, tzTab[i]? = some v → w.cell? ⟨0, i, none⟩ = some (.int .u8 v)

set_option maxRecDepth 100000 in
theorem tz_core (x k idx : Nat) (w : World) (hx0 : ((x : Int) == 0) = false)
    (key : IntKind.u64.wrap (bits .and .u64 (x : Int) (IntKind.u64.wrap (-(x : Int))) * 285870213051353865) / 288230376151711744 = (idx : Int))
    (hi : idx < 64) (hk : k < 64) (hcell : w.cell? ⟨0, idx, none⟩ = some (.int .u8 k)) :
    Calls Tryd.prog 74 #[.int .u64 x] w fun e w' => e = .returned (.int .i64 k) ∧ w = w' := by
  go_enter Tryd.func74, Tryd.ntmps74
  go_wp2_with (simp only [key])
  go_ret
  exact ⟨rfl, rfl⟩

theorem tz_any (x k : Nat) (w : World) (hT : TabAt w) (h : LastDigit x k) (h1 : x < 18446744073709551616) :
    Calls Tryd.prog 74 #[.int .u64 x] w fun e w' => e = .returned (.int .i64 k) ∧ w = w' := by
  have h0 : ((x : Int) == 0) = false := by
    have := Nat.ge_two_pow_of_testBit h.2.1
    have hpos : 0 < 2 ^ k := Nat.pow_pos (by omega)
    simp; omega
  obtain ⟨hi, ht⟩ := tz_table k h.1
  exact tz_core x k _ w h0 (tz_place h h1) hi h.1 (hT _ _ ht)

/-- What Free says: the first free place, or none. -/
def FreeSays (L : Nat → Nat) (n f : Nat) (w : World) (e : Ending) (w' : World) : Prop :=
  ∃ r : Option Nat, FirstFree L n f r ∧ e = .returned (.tuple #[.int .i64 (r.getD 0 : Nat), .bool r.isSome]) ∧ w = w'

theorem max_zero (f : Int) : (if (0 : Int) > f then (0 : Int) else f) = (f.toNat : Int) := by split <;> omega

theorem free_nil (f : Int) (w : World) : Calls Tryd.prog 50 #[.pointer .none, .int .i64 f] w fun e w' => e = .returned (.tuple #[.int .i64 0, .bool false]) ∧ w = w' := by
  have q := max_zero f
  generalize f.toNat = g at q
  go_enter Tryd.func50, Tryd.ntmps50
  go_wp2_with fail
  go_step3
  go_wp2_with (go_at_call 61; refine (size_nil _).mono ?_; rintro e w' ⟨rfl, rfl⟩)
  rw [Exit.noGoto_ret]
  go_ret2
  exact ⟨rfl, rfl⟩

set_option maxRecDepth 100000 in
theorem free_beyond (b o n : Nat) (f : Int) (w : World) (c0 : w.cell? ⟨b, o, none⟩ = some (.int .i64 n)) (h1 : n ≤ f.toNat) :
    Calls Tryd.prog 50 #[.pointer (some ⟨b, o, none⟩), .int .i64 f] w fun e w' => e = .returned (.tuple #[.int .i64 0, .bool false]) ∧ w = w' := by
  have q := max_zero f
  generalize f.toNat = g at q h1
  go_enter Tryd.func50, Tryd.ntmps50
  go_wp2_with fail
  go_step3
  go_wp2_with (first | (go_at_call 61; refine (size_any _ _ _ _ c0).mono ?_; rintro e w' ⟨rfl, rfl⟩))
  rw [Exit.noGoto_ret]
  go_ret2
  exact ⟨rfl, rfl⟩

theorem ff_found {L : Nat → Nat} {n f k j : Nat} {w : World} {q : Int} (h : FirstFree L n f (if 64 * k + j < n then some (64 * k + j) else .none)) (e : q = ((64 * k + j : Nat) : Int)) (hp : q < n) :
    FreeSays L n f w (.returned (.tuple #[.int .i64 q, .bool true])) w := by
  rw [if_pos (by omega)] at h
  subst e
  exact ⟨_, h, rfl, rfl⟩
theorem ff_beyond {L : Nat → Nat} {n f k j : Nat} {w : World} {q : Int} (h : FirstFree L n f (if 64 * k + j < n then some (64 * k + j) else .none)) (e : q = ((64 * k + j : Nat) : Int)) (hp : q < 0 ∨ n ≤ q) :
    FreeSays L n f w (.returned (.tuple #[.int .i64 0, .bool false])) w := by
  rw [if_neg (by omega)] at h
  exact ⟨_, h, rfl, rfl⟩
theorem ff_none {L : Nat → Nat} {n f : Nat} {w : World} (h : FirstFree L n f .none) : FreeSays L n f w (.returned (.tuple #[.int .i64 0, .bool false])) w := ⟨_, h, rfl, rfl⟩

set_option maxRecDepth 100000 in
set_option maxHeartbeats 800000 in
theorem free_any {w : World} {b bw bm n m : Nat} {L : Nat → Nat} (hr : RowAt w b bw bm n m L) (hT : TabAt w) (fi : Int) (f : Nat) (hfi : f = fi.toNat) (h1 : f < n) :
    Calls Tryd.prog 50 #[.pointer (some ⟨b, 0, none⟩), .int .i64 fi] w (FreeSays L n f w) := by
  have hn := hr.hi
  have c0 := hr.c0
  have c1 := hr.c1
  have cw : ∀ j, j < nw n → w.cell? ⟨bw, j, none⟩ = some (.int .u64 (wordOf L j)) := fun j hj => hr.cw hj
  have hnw : nw n ≤ 1024 := by unfold nw; omega
  have hnw2 : n ≤ 64 * nw n := by unfold nw; omega
  have q := max_zero fi
  rw [← hfi] at q
  clear hfi
  replace cw := Lib.hid cw
  replace hT := Lib.hid hT
  go_enter Tryd.func50, Tryd.ntmps50
  go_wp2_with fail
  go_step3
  go_wp2_with (go_at_call 61; refine (size_any _ _ _ _ c0).mono ?_; rintro e w' ⟨rfl, rfl⟩)
  go_step3
  go_wp2_with fail
  go_loop [6, 7] (fun fo i => ∃ k : Nat, f / 64 ≤ k ∧ k ≤ nw n ∧ Held L f (64 * k) ∧ fo = .int .i64 (-1) ∧ i = .int .i64 k) (fun _ i => nw n - (intOf i).toNat)
  case atStart => exact ⟨f / 64, Nat.le_refl _, Nat.le_of_lt (nw_lt h1), fun i h1 h2 => by omega, rfl, by go_num⟩
  case round =>
    obtain ⟨k, hkf, hk, hheld, rfl, rfl⟩ := hrel
    by_cases hlt : k < nw n
    · have c := cw.out k hlt
      have x1 := xor_word L k
      have x2 := xor_word' L k
      have hb : (k : Int) < (nw n : Int) := by omega
      by_cases hkk : k = f / 64
      · have m1 := mask_word L k (f % 64) (Nat.mod_lt _ (by omega))
        have hs : Start f k (f % 64) := by rw [hkk]; exact start_first f
        subst hkk
        by_cases hz : freeW L (f / 64) (f % 64) = 0
        · have nx := Lib.hid (hheld.next hs hz)
          rw [hz] at m1
          replace hheld := Lib.hid hheld
          replace hs := Lib.hid hs
          clear hz
          go_wp2_with fail
          go_round
          case rel => exact ⟨f / 64 + 1, by omega, by omega, nx.out, rfl, by go_num⟩
          case measure => simp [intOf]; omega
        · obtain ⟨j, hj⟩ := lastDigit_ex (Nat.pos_of_ne_zero hz) (freeW_lt L _ _)
          have tl := Lib.hid (hheld.tell (n := n) hs hj)
          replace hheld := Lib.hid hheld
          replace hs := Lib.hid hs
          have hj1 := hj.1
          have tz := Lib.hid (tz_any _ j w hT.out hj (freeW_lt L _ _))
          replace hj := Lib.hid hj
          have hz1 : ((freeW L (f / 64) (f % 64) : Nat) : Int) ≠ 0 := by omega
          go_wp2_with (go_at_call 74; refine tz.out.mono ?_; rintro e w' ⟨rfl, rfl⟩)
          all_goals
            rw [Exit.noGoto_ret]
            go_ret2
            first | exact ff_found (q := (f : Int) / 64 * 64 + j) tl.out (by omega) (by omega) | exact ff_beyond tl.out (q := (f : Int) / 64 * 64 + j) (by omega) (by omega)
      · have hs : Start f k 0 := start_later (by omega)
        have kk : ((k : Int) == (f : Int) / 64) = false := by simp; omega
        by_cases hz : freeW L k 0 = 0
        · have nx := Lib.hid (hheld.next hs hz)
          rw [hz] at x1 x2
          replace hheld := Lib.hid hheld
          replace hs := Lib.hid hs
          clear hz
          go_wp2_with fail
          go_round
          case rel => exact ⟨k + 1, by omega, by omega, nx.out, rfl, by go_num⟩
          case measure => simp [intOf]; omega
        · obtain ⟨j, hj⟩ := lastDigit_ex (Nat.pos_of_ne_zero hz) (freeW_lt L _ _)
          have tl := Lib.hid (hheld.tell (n := n) hs hj)
          replace hheld := Lib.hid hheld
          replace hs := Lib.hid hs
          have hj1 := hj.1
          have tz := Lib.hid (tz_any _ j w hT.out hj (freeW_lt L _ _))
          replace hj := Lib.hid hj
          have hz1 : ((freeW L k 0 : Nat) : Int) ≠ 0 := by omega
          go_wp2_with (go_at_call 74; refine tz.out.mono ?_; rintro e w' ⟨rfl, rfl⟩)
          all_goals
            rw [Exit.noGoto_ret]
            go_ret2
            first | exact ff_found (q := (k : Int) * 64 + j) tl.out (by omega) (by omega) | exact ff_beyond tl.out (q := (k : Int) * 64 + j) (by omega) (by omega)
    · have e : FirstFree L n f .none := fun i a b => hheld i a (by omega)
      replace e := Lib.hid e
      replace hheld := Lib.hid hheld
      go_wp2_with fail
      go_ret2
      exact ff_none e.out

end Go.Proofs.YtjhfoddhpmmjoaaDoor
