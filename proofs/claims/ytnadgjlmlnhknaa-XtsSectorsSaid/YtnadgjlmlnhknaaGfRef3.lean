/-
  The reference's gf: digits, byteOf, Box, Boxes. Conditions: bytes below 256.
-/
import Derived.Test.YtnadgjlmlnhknaaGfRef2
import Derived.Test.YtnadgjlmlnhknaaRef05
namespace Go.Proofs.Ytnadgjlmlnhknaa
open Go.RowKit

theorem infoInt : (Try.prog.info? 3).map (fun i => (i.zero, i.size, i.bytes)) = some (some (.int .i64 0), 1, 8) := by kernel_rfl
/-- Numbers as values. -/
def intV (D : Nat → Nat) (k : Nat) : List Value := (List.range k).map fun i => .int .i64 (D i : Int)
theorem intV_succ (D : Nat → Nat) (k : Nat) : intV D (k + 1) = intV D k ++ [.int .i64 (D k : Int)] := by
  unfold intV; rw [List.range_succ, List.map_append]; rfl
theorem intV_len (D : Nat → Nat) (k : Nat) : (intV D k).length = k := by simp [intV]
theorem intV_get (D : Nat → Nat) {k i : Nat} (h : i < k) : (intV D k)[i]? = some (.int .i64 (D i : Int)) := by simp [intV, h]
theorem dig_lt (a i : Nat) : dig a i < 2 := Nat.mod_lt _ (by decide)

set_option maxHeartbeats 1000000 in
set_option maxRecDepth 100000 in
theorem rdigits_any (a : Nat) (w : World) (ha : a < 256) :
    Calls Try.prog 72 #[.int .u8 (a : Int)] w fun e w' => ∃ v', e = .returned v' ∧ Own w' w.heap.size 3 v' (intV (dig a) 8) ∧ Below w.heap.size w w' := by
  go_enter Try.func72, Try.ntmps72
  go_wp2_with fail
  go_loopw [0, 3, 4] (fun x o i wr => ∃ k : Nat, k ≤ 8 ∧ x = .int .u8 ((a / 2 ^ k : Nat) : Int) ∧ i = .int .i64 k ∧ Own wr w.heap.size 3 o (intV (dig a) k) ∧ Below w.heap.size w wr) (fun _ _ i _ => 8 - (intOf i).toNat)
  case atStart => exact ⟨0, Nat.zero_le _, by simp, rfl, Own.nil _ _ _, Below.refl _ _⟩
  case round =>
    obtain ⟨k, hk, rfl, rfl, hO, hB⟩ := hrel
    by_cases hlt : k < 8
    · have ex : a / 2 ^ (k + 1) = a / 2 ^ k / 2 := by rw [Nat.pow_succ, Nat.div_div_eq_div_mul]
      have sn := intV_succ (dig a) k
      have hl := intV_len (dig a) k
      have ed : a / 2 ^ k % 2 = dig a k := rfl
      have lx : a / 2 ^ k < 256 := Nat.lt_of_le_of_lt (Nat.div_le_self _ _) ha
      have ld := dig_lt a k
      have hs := hB.size
      obtain ⟨x2, e2⟩ : ∃ x2, x2 = a / 2 ^ (k + 1) := ⟨_, rfl⟩
      rw [← e2] at ex
      generalize a / 2 ^ k = x at *
      generalize dig a k = d at *
      generalize intV (dig a) k = X at *
      have f1 : ((x : Int)).tmod 2 = (d : Int) := by rw [Int.tmod_eq_emod_of_nonneg (by omega)]; omega
      have f2 : ((x : Int)) / 2 = (x2 : Int) := by omega
      have f3 : IntKind.u8.wrap (x2 : Int) = (x2 : Int) := by rw [IntKind.wrap_u8]; omega
      have f4 : IntKind.u8.wrap (d : Int) = (d : Int) := by rw [IntKind.wrap_u8]; omega
      have Ba : Below w.heap.size w (wr.alloc (.cells #[.int .i64 (d : Int)] 3)) := hB.alloc hs _
      have O1 := hO.alloc (.cells #[.int .i64 (d : Int)] 3)
      have nw : ∀ (j : Nat) (u : Value), [Value.int .i64 (d : Int)][j]? = some u → ∃ ad, (some (⟨wr.heap.size, 0, none⟩ : Addr)) = some ad ∧ (wr.alloc (.cells #[.int .i64 (d : Int)] 3)).cell? (ad.add j) = some u := fun j u hj => ⟨_, rfl, cell_one_new wr (.int .i64 (d : Int)) 3 j u hj⟩
      replace hO := Lib.hid hO
      replace hB := Lib.hid hB
      replace ex := Lib.hid ex
      replace sn := Lib.hid sn
      replace hl := Lib.hid hl
      replace ed := Lib.hid ed
      replace Ba := Lib.hid Ba
      replace O1 := Lib.hid O1
      replace nw := Lib.hid nw
      replace e2 := Lib.hid e2
      go_wp2_with (at_builtin; refine wpList_append_x rfl (.tmp 9) (.tmp 13) 89 rfl 3 Try.underlying89 (.int .i64 0) 8 infoInt rfl (by decide) w.heap.size w u3 X rfl O1.out Ba.out Ba.out.size (some ⟨wr.heap.size, 0, none⟩) 1 1 [.int .i64 (d : Int)] rfl rfl (fun e => by simp at e) nw.out (by intro u hu; simp at hu; subst hu; rfl) (by have := hl.out; omega) ?_; intro v7 w7 o7 B7 _ _)
      go_roundw
      case rel => exact ⟨k + 1, by omega, by rw [← e2.out], by go_num, by rw [sn.out]; exact o7.out, B7.out⟩
      case measure => simp [intOf]; omega
    · obtain rfl : k = 8 := by omega
      replace hO := Lib.hid hO
      replace hB := Lib.hid hB
      go_wp2_with fail
      go_ret
      exact ⟨_, rfl, hO.out, hB.out⟩

theorem byteD_succ (D : Nat → Nat) (k : Nat) : byteD D (k + 1) = 2 * byteD D k + D (7 - k) := rfl
theorem byteD_lt {D : Nat → Nat} (h : ∀ i, D i < 2) : ∀ k, byteD D k < 2 ^ k
  | 0 => show 0 < 1 by decide
  | k + 1 => by have := byteD_lt h k; have := h (7 - k); rw [byteD_succ, Nat.pow_succ]; omega
set_option maxHeartbeats 1000000 in
set_option maxRecDepth 100000 in
theorem rbyte_any (D : Nat → Nat) (hD : ∀ i, D i < 2) (w : World) (v : Value) (base : Nat) (hO : Own w base 3 v (intV D 8)) :
    Calls Try.prog 74 #[v] w fun e w' => e = .returned (.int .u8 (byteD D 8 : Int)) ∧ w = w' := by
  obtain ⟨ao, cap, rfl, _, _, _, _, hc⟩ := hO.form
  rw [intV_len]
  obtain ⟨g, rfl, _, _⟩ := hc 0 _ (intV_get D (show 0 < 8 by decide))
  have cell : ∀ i, i < 8 → w.cell? ⟨g, i, none⟩ = some (.int .i64 (D i : Int)) := fun i hi => by
    obtain ⟨g', e, h1, _⟩ := hc i _ (intV_get D hi)
    cases e
    exact h1
  clear hc
  replace hO := Lib.hid hO
  replace hD := Lib.hid hD
  replace cell := Lib.hid cell
  go_enter Try.func74, Try.ntmps74
  go_wp2_with fail
  go_loop [3, 4] (fun n i => ∃ k : Nat, k ≤ 8 ∧ n = .int .u8 (byteD D k : Int) ∧ i = .int .i64 (7 - (k : Int))) (fun _ i => (intOf i + 1).toNat)
  case atStart => exact ⟨0, Nat.zero_le _, rfl, rfl⟩
  case round =>
    obtain ⟨k, hk, rfl, rfl⟩ := hrel
    by_cases hlt : k < 8
    · have ck := cell.out (7 - k) (by omega)
      have lb := byteD_lt hD.out k
      have ld := hD.out (7 - k)
      have lb2 : byteD D k < 128 := Nat.lt_of_lt_of_le lb (show 2 ^ k ≤ 2 ^ 7 from Nat.pow_le_pow_right (by decide) (by omega))
      have sn := byteD_succ D k
      obtain ⟨j, ej⟩ : ∃ j, j = 7 - k := ⟨_, rfl⟩
      rw [← ej] at ck ld sn
      have ei : (7 : Int) - (k : Int) = (j : Int) := by omega
      have ej1 : (j : Int) - 1 = 7 - ((k + 1 : Nat) : Int) := by omega
      rw [ei]
      generalize byteD D k = b at *
      generalize D j = d at *
      have f1 : IntKind.u8.wrap (2 * (b : Int)) = ((2 * b : Nat) : Int) := by rw [IntKind.wrap_u8]; omega
      have f2 : IntKind.u8.wrap (d : Int) = (d : Int) := by rw [IntKind.wrap_u8]; omega
      have f3 : IntKind.u8.wrap (((2 * b : Nat) : Int) + (d : Int)) = ((2 * b + d : Nat) : Int) := by rw [IntKind.wrap_u8]; omega
      have f4 : IntKind.i64.wrap ((j : Int) - 1) = (j : Int) - 1 := IntWalk.i64_in _ (by omega)
      have j8 : (j : Int) < 8 := by omega
      have j0 : decide ((j : Int) ≥ 0) = true := decide_eq_true (by omega)
      replace lb := Lib.hid lb
      replace sn := Lib.hid sn
      replace ej := Lib.hid ej
      replace ei := Lib.hid ei
      replace lb2 := Lib.hid lb2
      go_wp2_with fail
      go_round
      case rel => exact ⟨k + 1, by omega, by rw [sn.out]; have := lb2.out; go_num, by have := ei.out; congr 1 <;> omega⟩
      case measure =>
        show (7 - ((k : Int) + 1) + 1).toNat < ((j : Int) + 1).toNat
        have := ei.out
        omega
    · obtain rfl : k = 8 := by omega
      have d1 : decide ((7 : Int) - ((8 : Nat) : Int) ≥ 0) = false := rfl
      go_wp2_with fail
      go_ret
      exact ⟨rfl, rfl⟩

theorem boxD_lt (v i : Nat) : boxD v i < 2 := Nat.mod_lt _ (by decide)
set_option maxHeartbeats 4000000 in
set_option maxRecDepth 100000 in
theorem rbox_any (a : Nat) (w : World) (ha : a < 256) :
    Calls Try.prog 64 #[.int .u8 (a : Int)] w fun e w' => e = .returned (.int .u8 (gbox a : Int)) ∧ Below w.heap.size w w' := by
  have lG := ginv_lt ha
  have ci := Lib.hid (rinv_any a w ha)
  have eG := rbox_gbox ha
  obtain ⟨G, hG⟩ : ∃ G, G = ginv a := ⟨_, rfl⟩
  obtain ⟨R, hR⟩ : ∃ R, R = gbox a := ⟨_, rfl⟩
  rw [← hG] at ci lG eG
  rw [← hR] at eG ⊢
  replace hG := Lib.hid hG
  replace hR := Lib.hid hR
  replace eG := Lib.hid eG
  go_enter Try.func64, Try.ntmps64
  go_wp2_with fail
  refine ci.out.mono ?_
  rintro e w2 ⟨rfl, rfl⟩
  go_wp2_with fail
  refine (rdigits_any G w lG).mono ?_
  rintro e w1 ⟨v1, rfl, o1, B1⟩
  replace o1 := Lib.hid o1
  replace B1 := Lib.hid B1
  go_wp2_with fail
  refine (rdigits_any 99 w1 (by decide)).mono ?_
  rintro e w2 ⟨v2, rfl, o2, B2⟩
  have O1 := o1.out.below B2
  have low := B1.out.trans (B2.mono B1.out.size)
  have ws := low.size
  obtain ⟨a1, c1, rfl, _, _, _, _, h1⟩ := O1.form
  obtain ⟨a2, c2, rfl, _, _, _, _, h2⟩ := o2.form
  rw [intV_len, intV_len]
  obtain ⟨g1, rfl, _, _⟩ := h1 0 _ (intV_get _ (show 0 < 8 by decide))
  obtain ⟨g2, rfl, _, _⟩ := h2 0 _ (intV_get _ (show 0 < 8 by decide))
  have k1 : ∀ i, i < 8 → w2.cell? ⟨g1, i, none⟩ = some (.int .i64 (dig G i : Int)) := fun i hi => by
    obtain ⟨g', e, q, _⟩ := h1 i _ (intV_get _ hi)
    cases e
    exact q
  have k2 : ∀ i, i < 8 → w2.cell? ⟨g2, i, none⟩ = some (.int .i64 (dig 99 i : Int)) := fun i hi => by
    obtain ⟨g', e, q, _⟩ := h2 i _ (intV_get _ hi)
    cases e
    exact q
  clear h1 h2 o1
  replace B1 := Lib.hid B1
  replace B2 := Lib.hid B2
  replace O1 := Lib.hid O1
  replace o2 := Lib.hid o2
  replace low := Lib.hid low
  replace k1 := Lib.hid k1
  replace k2 := Lib.hid k2
  go_wp2_with fail
  go_loopw [5, 6] (fun o i wr => ∃ k : Nat, k ≤ 8 ∧ i = .int .i64 k ∧ Own wr w2.heap.size 3 o (intV (boxD G) k) ∧ Below w2.heap.size w2 wr) (fun _ i _ => 8 - (intOf i).toNat)
  case atStart => exact ⟨0, Nat.zero_le _, rfl, Own.nil _ _ _, Below.refl _ _⟩
  case round =>
    obtain ⟨k, hk, rfl, hO, hB⟩ := hrel
    by_cases hlt : k < 8
    · have hs := hB.size
      have cell1 : ∀ i, i < 8 → wr.drew.cell? ⟨g1, i, none⟩ = some (.int .i64 (dig G i : Int)) := fun i hi => (hB.cell (block_lt_of_cell (k1.out i hi))).trans (k1.out i hi)
      have cell2 : ∀ i, i < 8 → wr.drew.cell? ⟨g2, i, none⟩ = some (.int .i64 (dig 99 i : Int)) := fun i hi => (hB.cell (block_lt_of_cell (k2.out i hi))).trans (k2.out i hi)
      obtain ⟨p7, e7⟩ : ∃ p, p = (k + 7) % 8 := ⟨_, rfl⟩
      obtain ⟨p6, e6⟩ : ∃ p, p = (k + 6) % 8 := ⟨_, rfl⟩
      obtain ⟨p5, e5⟩ : ∃ p, p = (k + 5) % 8 := ⟨_, rfl⟩
      obtain ⟨p4, e4⟩ : ∃ p, p = (k + 4) % 8 := ⟨_, rfl⟩
      have q0 := cell1 k hlt
      have q7 := cell1 p7 (by omega)
      have q6 := cell1 p6 (by omega)
      have q5 := cell1 p5 (by omega)
      have q4 := cell1 p4 (by omega)
      have qc := cell2 k hlt
      have b0 := dig_lt G k
      have b7 := dig_lt G p7
      have b6 := dig_lt G p6
      have b5 := dig_lt G p5
      have b4 := dig_lt G p4
      have bc := dig_lt 99 k
      have eD : boxD G k = (dig G k + dig G p7 + dig G p6 + dig G p5 + dig G p4 + dig 99 k) % 2 := by rw [e7, e6, e5, e4]; rfl
      have sn := intV_succ (boxD G) k
      have hl := intV_len (boxD G) k
      have ld := boxD_lt G k
      generalize boxD G k = d at *
      generalize intV (boxD G) k = X at *
      generalize dig G k = d0 at *
      generalize dig G p7 = d7 at *
      generalize dig G p6 = d6 at *
      generalize dig G p5 = d5 at *
      generalize dig G p4 = d4 at *
      generalize dig 99 k = dc at *
      have i0 : (k : Int) < 8 := by omega
      have i7 : (p7 : Int) < 8 := by omega
      have i6 : (p6 : Int) < 8 := by omega
      have i5 : (p5 : Int) < 8 := by omega
      have i4 : (p4 : Int) < 8 := by omega
      have m7 : IntKind.i64.wrap ((k : Int) + 7) = (k : Int) + 7 := IntWalk.i64_in _ (by omega)
      have m6 : IntKind.i64.wrap ((k : Int) + 6) = (k : Int) + 6 := IntWalk.i64_in _ (by omega)
      have m5 : IntKind.i64.wrap ((k : Int) + 5) = (k : Int) + 5 := IntWalk.i64_in _ (by omega)
      have m4 : IntKind.i64.wrap ((k : Int) + 4) = (k : Int) + 4 := IntWalk.i64_in _ (by omega)
      have t7 : ((k : Int) + 7).tmod 8 = (p7 : Int) := by rw [Int.tmod_eq_emod_of_nonneg (by omega)]; omega
      have t6 : ((k : Int) + 6).tmod 8 = (p6 : Int) := by rw [Int.tmod_eq_emod_of_nonneg (by omega)]; omega
      have t5 : ((k : Int) + 5).tmod 8 = (p5 : Int) := by rw [Int.tmod_eq_emod_of_nonneg (by omega)]; omega
      have t4 : ((k : Int) + 4).tmod 8 = (p4 : Int) := by rw [Int.tmod_eq_emod_of_nonneg (by omega)]; omega
      obtain ⟨s1, g1'⟩ : ∃ s, s = d0 + d7 := ⟨_, rfl⟩
      obtain ⟨s2, g2'⟩ : ∃ s, s = s1 + d6 := ⟨_, rfl⟩
      obtain ⟨s3, g3'⟩ : ∃ s, s = s2 + d5 := ⟨_, rfl⟩
      obtain ⟨s4, g4'⟩ : ∃ s, s = s3 + d4 := ⟨_, rfl⟩
      obtain ⟨s5, g5'⟩ : ∃ s, s = s4 + dc := ⟨_, rfl⟩
      have u1 : IntKind.i64.wrap ((d0 : Int) + (d7 : Int)) = (s1 : Int) := by rw [IntWalk.i64_in _ (by omega)]; omega
      have u2 : IntKind.i64.wrap ((s1 : Int) + (d6 : Int)) = (s2 : Int) := by rw [IntWalk.i64_in _ (by omega)]; omega
      have u3' : IntKind.i64.wrap ((s2 : Int) + (d5 : Int)) = (s3 : Int) := by rw [IntWalk.i64_in _ (by omega)]; omega
      have u4' : IntKind.i64.wrap ((s3 : Int) + (d4 : Int)) = (s4 : Int) := by rw [IntWalk.i64_in _ (by omega)]; omega
      have u5' : IntKind.i64.wrap ((s4 : Int) + (dc : Int)) = (s5 : Int) := by rw [IntWalk.i64_in _ (by omega)]; omega
      have tm : (s5 : Int).tmod 2 = (d : Int) := by rw [Int.tmod_eq_emod_of_nonneg (by omega)]; omega
      have lowr := low.out.trans (hB.mono ws)
      have Bb : Below w2.heap.size w2 (wr.drew.alloc (.cells #[.int .i64 (d : Int)] 3)) := hB.drew.alloc hs _
      have O3 : Own (wr.drew.alloc (.cells #[.int .i64 (d : Int)] 3)) w2.heap.size 3 _ _ := hO.drew.alloc _
      have nw : ∀ (j : Nat) (u : Value), [Value.int .i64 (d : Int)][j]? = some u → ∃ ad, (some (⟨wr.heap.size, 0, none⟩ : Addr)) = some ad ∧ (wr.drew.alloc (.cells #[.int .i64 (d : Int)] 3)).cell? (ad.add j) = some u := fun j u hj => ⟨_, rfl, cell_one_new wr.drew (.int .i64 (d : Int)) 3 j u hj⟩
      clear cell1 cell2
      replace hO := Lib.hid hO
      replace hB := Lib.hid hB
      replace sn := Lib.hid sn
      replace hl := Lib.hid hl
      replace eD := Lib.hid eD
      replace b0 := Lib.hid b0
      replace b7 := Lib.hid b7
      replace b6 := Lib.hid b6
      replace b5 := Lib.hid b5
      replace b4 := Lib.hid b4
      replace bc := Lib.hid bc
      replace ld := Lib.hid ld
      replace e7 := Lib.hid e7
      replace e6 := Lib.hid e6
      replace e5 := Lib.hid e5
      replace e4 := Lib.hid e4
      replace g1' := Lib.hid g1'
      replace g2' := Lib.hid g2'
      replace g3' := Lib.hid g3'
      replace g4' := Lib.hid g4'
      replace g5' := Lib.hid g5'
      replace lowr := Lib.hid lowr
      replace Bb := Lib.hid Bb
      replace O3 := Lib.hid O3
      replace nw := Lib.hid nw
      go_wp2_with fail
      refine wp_region_held_drew (S := (fun w' => w'.cell? ⟨g1, k, none⟩ = some (.int .i64 (d0 : Int)) ∧ w'.cell? ⟨g1, p7, none⟩ = some (.int .i64 (d7 : Int)) ∧ w'.cell? ⟨g1, p6, none⟩ = some (.int .i64 (d6 : Int)) ∧ w'.cell? ⟨g1, p5, none⟩ = some (.int .i64 (d5 : Int)) ∧ w'.cell? ⟨g1, p4, none⟩ = some (.int .i64 (d4 : Int)) ∧ w'.cell? ⟨g2, k, none⟩ = some (.int .i64 (dc : Int)))) (by kernel_rfl) (⟨q0, q7, q6, q5, q4, qc⟩) (fun hHeld => ?_)
      refine held_take (i := 0) (v := ?_) rfl (by kernel_rfl) (by kernel_rfl) (by kernel_rfl) (fun _ _ _ h => h) (Or.inl ⟨by rfl, ?_⟩) (by assumption) ?_
      rotate_left
      · intro w hSw; (try dsimp only at hSw); go_simp; try with_reducible rfl
      try simp only [Act.put, List.setIfInBounds_toArray, List.set_cons_zero, List.set_cons_succ]
      refine held_take (i := 1) (v := ?_) rfl (by kernel_rfl) (by kernel_rfl) (by kernel_rfl) (fun _ _ _ h => h) (Or.inl ⟨by rfl, ?_⟩) (by assumption) ?_
      rotate_left
      · intro w hSw; (try dsimp only at hSw); go_simp; try with_reducible rfl
      try simp only [Act.put, List.setIfInBounds_toArray, List.set_cons_zero, List.set_cons_succ]
      refine held_take (i := 2) (v := ?_) rfl (by kernel_rfl) (by kernel_rfl) (by kernel_rfl) (fun _ _ _ h => h) (Or.inl ⟨by rfl, ?_⟩) (by assumption) ?_
      rotate_left
      · intro w hSw; (try dsimp only at hSw); go_simp; try with_reducible rfl
      try simp only [Act.put, List.setIfInBounds_toArray, List.set_cons_zero, List.set_cons_succ]
      refine held_take (i := 3) (v := ?_) rfl (by kernel_rfl) (by kernel_rfl) (by kernel_rfl) (fun _ _ _ h => h) (Or.inl ⟨by rfl, ?_⟩) (by assumption) ?_
      rotate_left
      · intro w hSw; (try dsimp only at hSw); go_simp; try with_reducible rfl
      try simp only [Act.put, List.setIfInBounds_toArray, List.set_cons_zero, List.set_cons_succ]
      refine held_take (i := 4) (v := ?_) rfl (by kernel_rfl) (by kernel_rfl) (by kernel_rfl) (fun _ _ _ h => h) (Or.inl ⟨by rfl, ?_⟩) (by assumption) ?_
      rotate_left
      · intro w hSw; (try dsimp only at hSw); go_simp; try with_reducible rfl
      try simp only [Act.put, List.setIfInBounds_toArray, List.set_cons_zero, List.set_cons_succ]
      refine held_take (i := 5) (v := ?_) rfl (by kernel_rfl) (by kernel_rfl) (by kernel_rfl) (fun _ _ _ h => h) (Or.inl ⟨by rfl, ?_⟩) (by assumption) ?_
      rotate_left
      · intro w hSw; (try dsimp only at hSw); go_simp; try with_reducible rfl
      try simp only [Act.put, List.setIfInBounds_toArray, List.set_cons_zero, List.set_cons_succ]
      refine held_take (i := 6) (v := ?_) rfl (by kernel_rfl) (by kernel_rfl) (by kernel_rfl) (fun _ _ _ h => h) (Or.inl ⟨by rfl, ?_⟩) (by assumption) ?_
      rotate_left
      · intro w hSw; (try dsimp only at hSw); go_simp; try with_reducible rfl
      try simp only [Act.put, List.setIfInBounds_toArray, List.set_cons_zero, List.set_cons_succ]
      refine held_take (i := 7) (v := ?_) rfl (by kernel_rfl) (by kernel_rfl) (by kernel_rfl) (fun _ _ _ h => h) (Or.inl ⟨by rfl, ?_⟩) (by assumption) ?_
      rotate_left
      · intro w hSw; (try dsimp only at hSw); go_simp; try with_reducible rfl
      try simp only [Act.put, List.setIfInBounds_toArray, List.set_cons_zero, List.set_cons_succ]
      refine held_take (i := 8) (v := ?_) rfl (by kernel_rfl) (by kernel_rfl) (by kernel_rfl) (fun _ _ _ h => h) (Or.inl ⟨by rfl, ?_⟩) (by assumption) ?_
      rotate_left
      · intro w hSw; (try dsimp only at hSw); go_simp; try with_reducible rfl
      try simp only [Act.put, List.setIfInBounds_toArray, List.set_cons_zero, List.set_cons_succ]
      refine held_take (i := 9) (v := ?_) rfl (by kernel_rfl) (by kernel_rfl) (by kernel_rfl) (fun _ _ _ h => h) (Or.inl ⟨by rfl, ?_⟩) (by assumption) ?_
      rotate_left
      · intro w hSw; (try dsimp only at hSw); go_simp; try with_reducible rfl
      try simp only [Act.put, List.setIfInBounds_toArray, List.set_cons_zero, List.set_cons_succ]
      refine held_take (i := 10) (v := ?_) rfl (by kernel_rfl) (by kernel_rfl) (by kernel_rfl) (fun _ _ _ h => h) (Or.inl ⟨by rfl, ?_⟩) (by assumption) ?_
      rotate_left
      · intro w hSw; (try dsimp only at hSw); go_simp; try with_reducible rfl
      try simp only [Act.put, List.setIfInBounds_toArray, List.set_cons_zero, List.set_cons_succ]
      refine held_take (i := 11) (v := ?_) rfl (by kernel_rfl) (by kernel_rfl) (by kernel_rfl) (fun _ _ _ h => h) (Or.inl ⟨by rfl, ?_⟩) (by assumption) ?_
      rotate_left
      · intro w hSw; (try dsimp only at hSw); go_simp; try with_reducible rfl
      try simp only [Act.put, List.setIfInBounds_toArray, List.set_cons_zero, List.set_cons_succ]
      refine held_take (i := 12) (v := ?_) rfl (by kernel_rfl) (by kernel_rfl) (by kernel_rfl) (fun _ _ _ h => h) (Or.inl ⟨by rfl, ?_⟩) (by assumption) ?_
      rotate_left
      · intro w hSw; (try dsimp only at hSw); go_simp; try with_reducible rfl
      try simp only [Act.put, List.setIfInBounds_toArray, List.set_cons_zero, List.set_cons_succ]
      refine held_take (i := 13) (v := ?_) rfl (by kernel_rfl) (by kernel_rfl) (by kernel_rfl) (fun _ _ _ h => h) (Or.inl ⟨by rfl, ?_⟩) (by assumption) ?_
      rotate_left
      · intro w hSw; (try dsimp only at hSw); go_simp; try with_reducible rfl
      try simp only [Act.put, List.setIfInBounds_toArray, List.set_cons_zero, List.set_cons_succ]
      refine held_take (i := 14) (v := ?_) rfl (by kernel_rfl) (by kernel_rfl) (by kernel_rfl) (fun _ _ _ h => h) (Or.inl ⟨by rfl, ?_⟩) (by assumption) ?_
      rotate_left
      · intro w hSw; (try dsimp only at hSw); go_simp; try with_reducible rfl
      try simp only [Act.put, List.setIfInBounds_toArray, List.set_cons_zero, List.set_cons_succ]
      refine held_take (i := 15) (v := ?_) rfl (by kernel_rfl) (by kernel_rfl) (by kernel_rfl) (fun _ _ _ h => h) (Or.inl ⟨by rfl, ?_⟩) (by assumption) ?_
      rotate_left
      · intro w hSw; (try dsimp only at hSw); go_simp; try with_reducible rfl
      try simp only [Act.put, List.setIfInBounds_toArray, List.set_cons_zero, List.set_cons_succ]
      refine held_take (i := 16) (v := ?_) rfl (by kernel_rfl) (by kernel_rfl) (by kernel_rfl) (fun _ _ _ h => h) (Or.inl ⟨by rfl, ?_⟩) (by assumption) ?_
      rotate_left
      · intro w hSw; (try dsimp only at hSw); go_simp; try with_reducible rfl
      try simp only [Act.put, List.setIfInBounds_toArray, List.set_cons_zero, List.set_cons_succ]
      refine held_take (i := 17) (v := ?_) rfl (by kernel_rfl) (by kernel_rfl) (by kernel_rfl) (fun _ _ _ h => h) (Or.inl ⟨by rfl, ?_⟩) (by assumption) ?_
      rotate_left
      · intro w hSw; (try dsimp only at hSw); go_simp; try with_reducible rfl
      try simp only [Act.put, List.setIfInBounds_toArray, List.set_cons_zero, List.set_cons_succ]
      refine held_take (i := 18) (v := ?_) rfl (by kernel_rfl) (by kernel_rfl) (by kernel_rfl) (fun _ _ _ h => h) (Or.inl ⟨by rfl, ?_⟩) (by assumption) ?_
      rotate_left
      · intro w hSw; (try dsimp only at hSw); go_simp; try with_reducible rfl
      try simp only [Act.put, List.setIfInBounds_toArray, List.set_cons_zero, List.set_cons_succ]
      refine held_take (i := 19) (v := ?_) rfl (by kernel_rfl) (by kernel_rfl) (by kernel_rfl) (fun _ _ _ h => h) (Or.inl ⟨by rfl, ?_⟩) (by assumption) ?_
      rotate_left
      · intro w hSw; (try dsimp only at hSw); go_simp; try with_reducible rfl
      try simp only [Act.put, List.setIfInBounds_toArray, List.set_cons_zero, List.set_cons_succ]
      refine held_take (i := 20) (v := ?_) rfl (by kernel_rfl) (by kernel_rfl) (by kernel_rfl) (fun _ _ _ h => h) (Or.inl ⟨by rfl, ?_⟩) (by assumption) ?_
      rotate_left
      · intro w hSw; (try dsimp only at hSw); go_simp; try with_reducible rfl
      try simp only [Act.put, List.setIfInBounds_toArray, List.set_cons_zero, List.set_cons_succ]
      refine held_take (i := 21) (v := ?_) rfl (by kernel_rfl) (by kernel_rfl) (by kernel_rfl) (fun _ _ _ h => h) (Or.inl ⟨by rfl, ?_⟩) (by assumption) ?_
      rotate_left
      · intro w hSw; (try dsimp only at hSw); go_simp; try with_reducible rfl
      try simp only [Act.put, List.setIfInBounds_toArray, List.set_cons_zero, List.set_cons_succ]
      refine held_take (i := 22) (v := ?_) rfl (by kernel_rfl) (by kernel_rfl) (by kernel_rfl) (fun _ _ _ h => h) (Or.inl ⟨by rfl, ?_⟩) (by assumption) ?_
      rotate_left
      · intro w hSw; (try dsimp only at hSw); go_simp; try with_reducible rfl
      try simp only [Act.put, List.setIfInBounds_toArray, List.set_cons_zero, List.set_cons_succ]
      refine held_take (i := 23) (v := ?_) rfl (by kernel_rfl) (by kernel_rfl) (by kernel_rfl) (fun _ _ _ h => h) (Or.inl ⟨by rfl, ?_⟩) (by assumption) ?_
      rotate_left
      · intro w hSw; (try dsimp only at hSw); go_simp; try with_reducible rfl
      try simp only [Act.put, List.setIfInBounds_toArray, List.set_cons_zero, List.set_cons_succ]
      refine held_take (i := 24) (v := ?_) rfl (by kernel_rfl) (by kernel_rfl) (by kernel_rfl) (fun _ _ _ h => h) (Or.inl ⟨by rfl, ?_⟩) (by assumption) ?_
      rotate_left
      · intro w hSw; (try dsimp only at hSw); go_simp; try with_reducible rfl
      try simp only [Act.put, List.setIfInBounds_toArray, List.set_cons_zero, List.set_cons_succ]
      refine held_take (i := 25) (v := ?_) rfl (by kernel_rfl) (by kernel_rfl) (by kernel_rfl) (fun _ _ _ h => h) (Or.inl ⟨by rfl, ?_⟩) (by assumption) ?_
      rotate_left
      · intro w hSw; (try dsimp only at hSw); go_simp; try with_reducible rfl
      try simp only [Act.put, List.setIfInBounds_toArray, List.set_cons_zero, List.set_cons_succ]
      refine held_take (i := 26) (v := ?_) rfl (by kernel_rfl) (by kernel_rfl) (by kernel_rfl) (fun _ _ _ h => h) (Or.inl ⟨by rfl, ?_⟩) (by assumption) ?_
      rotate_left
      · intro w hSw; (try dsimp only at hSw); go_simp; try with_reducible rfl
      try simp only [Act.put, List.setIfInBounds_toArray, List.set_cons_zero, List.set_cons_succ]
      refine held_take (i := 27) (v := ?_) rfl (by kernel_rfl) (by kernel_rfl) (by kernel_rfl) (fun _ _ _ h => h) (Or.inl ⟨by rfl, ?_⟩) (by assumption) ?_
      rotate_left
      · intro w hSw; (try dsimp only at hSw); go_simp; try with_reducible rfl
      try simp only [Act.put, List.setIfInBounds_toArray, List.set_cons_zero, List.set_cons_succ]
      refine held_take (i := 28) (v := ?_) rfl (by kernel_rfl) (by kernel_rfl) (by kernel_rfl) (fun _ _ _ h => h) (Or.inl ⟨by rfl, ?_⟩) (by assumption) ?_
      rotate_left
      · intro w hSw; (try dsimp only at hSw); go_simp; try with_reducible rfl
      try simp only [Act.put, List.setIfInBounds_toArray, List.set_cons_zero, List.set_cons_succ]
      refine held_take (i := 29) (v := ?_) rfl (by kernel_rfl) (by kernel_rfl) (by kernel_rfl) (fun _ _ _ h => h) (Or.inl ⟨by rfl, ?_⟩) (by assumption) ?_
      rotate_left
      · intro w hSw; (try dsimp only at hSw); go_simp; try with_reducible rfl
      try simp only [Act.put, List.setIfInBounds_toArray, List.set_cons_zero, List.set_cons_succ]
      refine held_take (i := 30) (v := ?_) rfl (by kernel_rfl) (by kernel_rfl) (by kernel_rfl) (fun _ _ _ h => h) (Or.inl ⟨by rfl, ?_⟩) (by assumption) ?_
      rotate_left
      · intro w hSw; (try dsimp only at hSw); go_simp; try with_reducible rfl
      try simp only [Act.put, List.setIfInBounds_toArray, List.set_cons_zero, List.set_cons_succ]
      refine held_take (i := 31) (v := ?_) rfl (by kernel_rfl) (by kernel_rfl) (by kernel_rfl) (fun _ _ _ h => h) (Or.inl ⟨by rfl, ?_⟩) (by assumption) ?_
      rotate_left
      · intro w hSw; (try dsimp only at hSw); go_simp; try with_reducible rfl
      try simp only [Act.put, List.setIfInBounds_toArray, List.set_cons_zero, List.set_cons_succ]
      refine held_take (i := 32) (v := ?_) rfl (by kernel_rfl) (by kernel_rfl) (by kernel_rfl) (fun _ _ _ h => h) (Or.inl ⟨by rfl, ?_⟩) (by assumption) ?_
      rotate_left
      · intro w hSw; (try dsimp only at hSw); go_simp; try with_reducible rfl
      try simp only [Act.put, List.setIfInBounds_toArray, List.set_cons_zero, List.set_cons_succ]
      refine held_take (i := 33) (v := ?_) rfl (by kernel_rfl) (by kernel_rfl) (by kernel_rfl) (fun _ _ _ h => h) (Or.inl ⟨by rfl, ?_⟩) (by assumption) ?_
      rotate_left
      · intro w hSw; (try dsimp only at hSw); go_simp; try with_reducible rfl
      try simp only [Act.put, List.setIfInBounds_toArray, List.set_cons_zero, List.set_cons_succ]
      refine held_take (i := 34) (v := ?_) rfl (by kernel_rfl) (by kernel_rfl) (by kernel_rfl) (fun _ _ _ h => h) (Or.inl ⟨by rfl, ?_⟩) (by assumption) ?_
      rotate_left
      · intro w hSw; (try dsimp only at hSw); go_simp; try with_reducible rfl
      try simp only [Act.put, List.setIfInBounds_toArray, List.set_cons_zero, List.set_cons_succ]
      refine held_take (i := 35) (v := ?_) rfl (by kernel_rfl) (by kernel_rfl) (by kernel_rfl) (fun _ _ _ h => h) (Or.inl ⟨by rfl, ?_⟩) (by assumption) ?_
      rotate_left
      · intro w hSw; (try dsimp only at hSw); go_simp; try with_reducible rfl
      try simp only [Act.put, List.setIfInBounds_toArray, List.set_cons_zero, List.set_cons_succ]
      refine held_take (i := 36) (v := ?_) rfl (by kernel_rfl) (by kernel_rfl) (by kernel_rfl) (fun _ _ _ h => h) (Or.inl ⟨by rfl, ?_⟩) (by assumption) ?_
      rotate_left
      · intro w hSw; (try dsimp only at hSw); go_simp; try with_reducible rfl
      try simp only [Act.put, List.setIfInBounds_toArray, List.set_cons_zero, List.set_cons_succ]
      refine held_take (i := 37) (v := ?_) rfl (by kernel_rfl) (by kernel_rfl) (by kernel_rfl) (fun _ _ _ h => h) (Or.inl ⟨by rfl, ?_⟩) (by assumption) ?_
      rotate_left
      · intro w hSw; (try dsimp only at hSw); go_simp; try with_reducible rfl
      try simp only [Act.put, List.setIfInBounds_toArray, List.set_cons_zero, List.set_cons_succ]
      refine wpAnyH_done (by kernel_rfl) ?_ _
      clear hHeld
      go_wp2_with (at_builtin; refine wpList_append_x rfl (.tmp 53) (.tmp 56) 89 rfl 3 Try.underlying89 (.int .i64 0) 8 infoInt rfl (by decide) w2.heap.size w2 u5 X rfl (O3.out) Bb.out Bb.out.size (some ⟨wr.heap.size, 0, none⟩) 1 1 [.int .i64 (d : Int)] rfl rfl (fun e => by simp at e) nw.out (by intro u hu; simp at hu; subst hu; rfl) (by have := hl.out; omega) ?_; intro v7 w7 o7 B7 _ _)
      go_roundw
      case rel => exact ⟨k + 1, by omega, by go_num, by rw [sn.out]; exact o7.out, B7.out⟩
      case measure => simp [intOf]; omega
    · obtain rfl : k = 8 := by omega
      have lowr := low.out.trans (hB.mono ws)
      have cb := rbyte_any (boxD G) (boxD_lt G) wr _ _ hO
      rw [eG.out] at cb
      replace hO := Lib.hid hO
      replace hB := Lib.hid hB
      replace lowr := Lib.hid lowr
      replace cb := Lib.hid cb
      go_wp2_with fail
      refine cb.out.mono ?_
      rintro e w3 ⟨rfl, rfl⟩
      go_wp2_with fail
      go_ret
      exact ⟨rfl, lowr.out⟩

set_option maxHeartbeats 1000000 in
set_option maxRecDepth 100000 in
theorem rboxes_any (w : World) :
    Calls Try.prog 42 #[] w fun e w' => ∃ v', e = .returned v' ∧ Own w' w.heap.size 5 v' (u8l (bytesOf gbox 256)) ∧ Below w.heap.size w w' := by
  go_enter Try.func42, Try.ntmps42
  go_wp2_with fail
  go_loopw [1, 2] (fun o i wr => ∃ k : Nat, k ≤ 256 ∧ i = .int .i64 k ∧ Own wr w.heap.size 5 o (u8l (bytesOf gbox k)) ∧ Below w.heap.size w wr) (fun _ i _ => 256 - (intOf i).toNat)
  case atStart => exact ⟨0, Nat.zero_le _, rfl, Own.nil _ _ _, Below.refl _ _⟩
  case round =>
    obtain ⟨k, hk, rfl, hO, hB⟩ := hrel
    by_cases hlt : k < 256
    · have cb := rbox_any k wr hlt
      have lb : gbox k < 256 := gbox_lt hlt
      have sn := bytesOf_snoc gbox k
      have ll : (bytesOf gbox k).length = k := length_bytesOf _ _
      have hs := hB.size
      generalize bytesOf gbox k = L at *
      generalize gbox k = d at *
      have f1 : IntKind.u8.wrap (k : Int) = (k : Int) := by rw [IntKind.wrap_u8]; omega
      replace cb := Lib.hid cb
      replace hO := Lib.hid hO
      replace hB := Lib.hid hB
      replace sn := Lib.hid sn
      replace lb := Lib.hid lb
      go_wp2_with fail
      refine cb.out.mono ?_
      rintro e w2 ⟨rfl, B2⟩
      have O2 := hO.out.below B2
      have low2 := hB.out.trans (B2.mono hs)
      have s2 := low2.size
      have t1 := lit1 (wx := w2) lb.out
      have Ba : Below w.heap.size w (w2.alloc (.cells #[.int .u8 (d : Int)] 5)) := low2.alloc s2 _
      have O3 := O2.alloc (.cells #[.int .u8 (d : Int)] 5)
      replace B2 := Lib.hid B2
      replace O2 := Lib.hid O2
      replace low2 := Lib.hid low2
      replace t1 := Lib.hid t1
      replace Ba := Lib.hid Ba
      replace O3 := Lib.hid O3
      go_wp2_with (at_builtin; refine wpList_append_s (by rfl) (.tmp 7) (.tmp 11) rfl w.heap.size w u1 L rfl O3.out Ba.out Ba.out.size _ [d] rfl t1.out (by rw [ll]; simp; omega) ?_; intro v7 w7 o7 B7)
      go_roundw
      case rel => exact ⟨k + 1, by omega, by go_num, by rw [sn.out]; exact o7.out, B7.out⟩
      case measure => simp [intOf]; omega
    · obtain rfl : k = 256 := by omega
      replace hO := Lib.hid hO
      replace hB := Lib.hid hB
      go_wp2_with fail
      go_ret
      exact ⟨_, rfl, hO.out, hB.out⟩
end Go.Proofs.Ytnadgjlmlnhknaa
