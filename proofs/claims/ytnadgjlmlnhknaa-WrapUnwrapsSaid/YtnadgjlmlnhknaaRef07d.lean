/-
  The reference of layer 7: Unwrap. Condition: a key of 32 bytes.
-/
import Derived.Test.YtnadgjlmlnhknaaRef07c
import Derived.Test.YtnadgjlmlnhknaaWrapUn
namespace Go.Proofs.Ytnadgjlmlnhknaa
open Go.RowKit

theorem unsays_no {w w' : World} {R R0 : List Nat} (e : R0 = R) (h : R.take 8 ≠ List.replicate 8 166) (B : Below w.heap.size w w') : UnSays R0 w (.returned (.tuple #[.slice none 0 0, .int .i64 20])) w' := by
  subst e
  exact ⟨⟨_, by rw [if_neg h], fun k => absurd k h, fun _ => rfl⟩, B⟩
theorem unsays_yes {w w' : World} {R R0 : List Nat} {v : Value} (e : R0 = R) (h : R.take 8 = List.replicate 8 166) (tF : TextAt w' v (R.drop 8)) (B : Below w.heap.size w w') : UnSays R0 w (.returned (.tuple #[v, .int .i64 0])) w' := by
  subst e
  exact ⟨⟨_, by rw [if_pos h], fun _ => tF, fun k => absurd h k⟩, B⟩
set_option maxRecDepth 100000 in
theorem r7unwrap_bad (w : World) (vk : Value) (ao : Option Addr) (m cap : Nat) (hm : m < 9223372036854775808) (hf : fitsB m 1 = false) :
    Calls Try.prog 38 #[vk, .slice ao m cap] w fun e w' => e = .returned (.tuple #[.slice none 0 0, .int .i64 3]) ∧ Below w.heap.size w w' := by
  have hq := of_decide_eq_false hf
  clear hf
  have hmod : ((m : Int)).tmod 8 = ((m % 8 : Nat) : Int) := by rw [Int.tmod_eq_emod_of_nonneg (by omega)]; omega
  by_cases h0 : m < 24
  · have d0 : decide ((m : Int) < 24) = true := decide_eq_true (by omega)
    go_enter Try.func38, Try.ntmps38
    go_wp2_with fail
    go_ret2
    exact ⟨rfl, Below.refl _ _⟩
  · have d0 : decide ((m : Int) < 24) = false := decide_eq_false (by omega)
    by_cases h1 : 136 < m
    · have d1 : decide ((m : Int) > 136) = true := decide_eq_true (by omega)
      go_enter Try.func38, Try.ntmps38
      go_wp2_with fail
      go_ret2
      exact ⟨rfl, Below.refl _ _⟩
    · have d1 : decide ((m : Int) > 136) = false := decide_eq_false (by omega)
      have d2 : (((m % 8 : Nat) : Int) == 0) = false := beq_eq_false_iff_ne.2 (by omega)
      have d3 : (((m % 8 : Nat) : Int) != 0) = true := by rw [bne, d2]; rfl
      generalize m % 8 = r at *
      go_enter Try.func38, Try.ntmps38
      go_wp2_with fail
      go_ret2
      exact ⟨rfl, Below.refl _ _⟩

set_option maxHeartbeats 4000000 in
set_option maxRecDepth 100000 in
theorem r7unwrap_ok (w : World) (vk : Value) (key : List Nat) (hk : key.length = 32) (htk : TextAt w vk key) (ao : Option Addr) (t : List Nat) (m cap : Nat) (em : t.length = m) (ht : TextAt w (.slice ao m cap) t) (hf : fitsB m 1 = true) :
    Calls Try.prog 38 #[vk, .slice ao m cap] w (UnSays (unL (byt (wordsOf (byt key))) t) w) := by
  obtain ⟨hm8, hm16, hm128⟩ := of_decide_eq_true hf
  obtain ⟨n, en⟩ : ∃ n, m = 8 * (n + 1) := ⟨m / 8 - 1, by omega⟩
  have hmod : ((m : Int)).tmod 8 = 0 := by rw [Int.tmod_eq_emod_of_nonneg (by omega)]; omega
  have d0 : decide ((m : Int) < 24) = false := decide_eq_false (by omega)
  have d1 : decide ((m : Int) > 136) = false := decide_eq_false (by omega)
  have hs := byt_lt htk.small
  have cn := rnew_any w vk key hk htk
  have hV : ∀ i, byt (wordsOf (byt key)) i < 256 := words_lt hs 60
  generalize byt (wordsOf (byt key)) = V at *
  have st := ht.small
  have hn2 : 2 ≤ n := by omega
  have hn16 : n ≤ 16 := by omega
  have eU : unL V t = bytesOf (unTo V (byt t) n (6 * n) (6 * n)) (8 + 8 * n) := by
    unfold unL
    have h8 : t.length / 8 - 1 = n := by omega
    rw [h8]
    congr 1; omega
  replace hk := Lib.hid hk
  replace htk := Lib.hid htk
  replace hs := Lib.hid hs
  replace em := Lib.hid em
  replace ht := Lib.hid ht
  replace hf := Lib.hid hf
  replace hm8 := Lib.hid hm8
  replace hm16 := Lib.hid hm16
  replace hm128 := Lib.hid hm128
  replace en := Lib.hid en
  replace cn := Lib.hid cn
  replace hV := Lib.hid hV
  replace st := Lib.hid st
  replace hn2 := Lib.hid hn2
  replace hn16 := Lib.hid hn16
  replace eU := Lib.hid eU
  go_enter Try.func38, Try.ntmps38
  go_wp2_with fail
  refine cn.out.mono ?_
  rintro e w1 ⟨c, aw, cw, vb, vk2, rfl, rC, B1⟩
  have R1 : RefAt w1 c V := ⟨_, _, _, _, rC⟩
  have cw2 := r7words_any w1 _ t m (n + 1) em.out en.out (by have := hm128.out; omega) (ht.out.below B1)
  clear cn rC
  replace R1 := Lib.hid R1
  replace B1 := Lib.hid B1
  replace cw2 := Lib.hid cw2
  go_wp2_with fail
  refine cw2.out.mono ?_
  rintro e w2 ⟨vr, vs, rfl, oR, lR, eR, B2⟩
  obtain ⟨ar, cq, rfl, q1, _, _, qb, qc⟩ := oR.form
  have ev0 : vs[0]? = some (vs[0]'(by omega)) := List.getElem?_eq_getElem _
  obtain ⟨g, rfl, c0, _⟩ := qc 0 _ ev0
  have hgR := (oR.lt g rfl)
  rw [lR] at oR q1 ⊢
  generalize vs[0]'(by omega) = u0 at ev0 c0
  have st0 : WrapR w w2 g 1 n cq c u0 V (unTo V (byt t) n (6 * n) (6 * n - n * 6)) := by
    obtain ⟨cur, hcur⟩ := own_typed oR (k := g) rfl
    have e0 : unTo V (byt t) n (6 * n) (6 * n - n * 6) = byt t := by rw [show 6 * n - n * 6 = 0 by omega]; rfl
    rw [e0]
    refine ⟨⟨vs, by rw [Nat.add_comm]; exact oR.weaken (Nat.zero_le _), by rw [Nat.add_comm]; exact lR, fun i u hi e => ?_⟩, ⟨?_, ?_⟩, ?_, ?_, w1, ?_, ?_, R1.out⟩
    · have h := eR _ u e
      rw [show 1 + i = i + 1 by omega] at h
      exact ⟨h.text (bytesOf_lt fun j _ => byt_lt st.out _), NotIn.typed h hcur⟩
    · have h := (eR 0 u0 ev0).text (bytesOf_lt fun j _ => byt_lt st.out _)
      have e2 : wordL (byt t) 0 = bytesOf (byt t) 8 := bytesOf_congr fun j _ => by congr 1; omega
      rw [e2] at h
      exact h
    · exact NotIn.typed (eR 0 u0 ev0) hcur
    · exact B1.out.trans (B2.mono B1.out.size)
    · exact Nat.le_trans B1.out.size hgR.1
    · exact hgR.1
    · exact B2
  have hc1 := run_cut_l (P := Try.prog) (T := 42) (e := 29) Try.underlying42 (by kernel_rfl) (some ⟨g, 0, none⟩) (n + 1) cq 1 (by omega) 1 rfl
  rw [cutA_some (by have := hn2.out; omega), show n + 1 - 1 = n by omega, Nat.zero_add] at hc1
  have hn0 : 0 < n + 1 := by omega
  obtain ⟨n1, en1⟩ : ∃ n1, n1 = n + 1 := ⟨_, rfl⟩
  rw [← en1] at hc1 hn0 q1 ⊢
  have c0' : w2.drew.cell? ⟨g, 0, none⟩ = some u0 := c0
  clear cw2 oR eR B2 B1 R1 ev0 qb qc lR
  replace st0 := Lib.hid st0
  replace hgR := Lib.hid hgR
  replace q1 := Lib.hid q1
  replace en1 := Lib.hid en1
  go_wp2_with fail
  refine wp_region_held_drew (S := (fun w' => w'.cell? ⟨g, 0, none⟩ = some u0)) (by kernel_rfl) (c0') (fun hHeld => ?_)
  refine held_take (i := 0) (v := ?_) rfl (by kernel_rfl) (by kernel_rfl) (by kernel_rfl) (fun _ _ _ h => h) (Or.inl ⟨by rfl, ?_⟩) (by assumption) ?_
  rotate_left
  · intro w hSw; (try dsimp only at hSw); go_simp; try with_reducible rfl
  try simp only [Act.put, List.setIfInBounds_toArray, List.set_cons_zero, List.set_cons_succ]
  refine held_take (i := 1) (v := ?_) rfl (by kernel_rfl) (by kernel_rfl) (by kernel_rfl) (fun _ _ _ h => h) (Or.inl ⟨by rfl, ?_⟩) (by assumption) ?_
  rotate_left
  · intro w hSw; (try dsimp only at hSw); go_simp; try with_reducible rfl
  try simp only [Act.put, List.setIfInBounds_toArray, List.set_cons_zero, List.set_cons_succ]
  refine held_take (i := 2) (v := ?_) rfl (by kernel_rfl) (by kernel_rfl) (by kernel_rfl) (fun _ _ _ h => h) (Or.inl ⟨by rfl, ?_⟩) (by assumption) ?_
  rotate_left
  · intro w hSw; (try dsimp only at hSw); go_simp; try with_reducible rfl
  try simp only [Act.put, List.setIfInBounds_toArray, List.set_cons_zero, List.set_cons_succ]
  refine held_take (i := 3) (v := ?_) rfl (by kernel_rfl) (by kernel_rfl) (by kernel_rfl) (fun _ _ _ h => h) (Or.inl ⟨by rfl, ?_⟩) (by assumption) ?_
  rotate_left
  · intro w hSw; (try dsimp only at hSw); go_simp; try with_reducible rfl
  try simp only [Act.put, List.setIfInBounds_toArray, List.set_cons_zero, List.set_cons_succ]
  refine held_take (i := 4) (v := ?_) rfl (by kernel_rfl) (by kernel_rfl) (by kernel_rfl) (fun _ _ _ h => h) (Or.inl ⟨by rfl, ?_⟩) (by assumption) ?_
  rotate_left
  · intro w hSw; (try dsimp only at hSw); go_simp; try with_reducible rfl
  try simp only [Act.put, List.setIfInBounds_toArray, List.set_cons_zero, List.set_cons_succ]
  refine held_take (i := 5) (v := ?_) rfl (by kernel_rfl) (by kernel_rfl) (by kernel_rfl) (fun _ _ _ h => h) (Or.inl ⟨by rfl, ?_⟩) (by assumption) ?_
  rotate_left
  · intro w hSw; (try dsimp only at hSw); go_simp; try with_reducible rfl
  try simp only [Act.put, List.setIfInBounds_toArray, List.set_cons_zero, List.set_cons_succ]
  refine held_take (i := 6) (v := ?_) rfl (by kernel_rfl) (by kernel_rfl) (by kernel_rfl) (fun _ _ _ h => h) (Or.inl ⟨by rfl, ?_⟩) (by assumption) ?_
  rotate_left
  · intro w hSw; (try dsimp only at hSw); go_simp; try with_reducible rfl
  try simp only [Act.put, List.setIfInBounds_toArray, List.set_cons_zero, List.set_cons_succ]
  refine wpAnyH_done (by kernel_rfl) ?_ _
  clear hHeld
  clear c0 c0' hc1 hn0
  have st0 := Lib.hid (st0.out.below (Below.refl _ _).drew)
  go_wp2_with fail
  go_loopw [8, 10] (fun va tv wr => ∃ t1 : Nat, t1 ≤ 6 ∧ tv = .int .i64 ((t1 : Int) - 1) ∧ WrapR w wr g 1 n cq c va V (unTo V (byt t) n (6 * n) (6 * n - n * t1))) (fun _ tv _ => (intOf tv + 1).toNat)
  case atStart => exact ⟨6, Nat.le_refl _, rfl, st0.out⟩
  case round =>
    clear st0
    obtain ⟨t1, ht6, rfl, st1⟩ := hrel
    obtain ⟨wq, rfl⟩ : ∃ wq : World, wq = wr := ⟨_, rfl⟩
    by_cases hlt : 0 < t1
    · obtain ⟨t2, rfl⟩ : ∃ t2, t1 = t2 + 1 := ⟨t1 - 1, by omega⟩
      have et : (((t2 + 1 : Nat) : Int) - 1) = (t2 : Int) := by omega
      rw [et]
      clear et hlt
      have d6 : decide ((t2 : Int) ≥ 0) = true := decide_eq_true (by omega)
      replace st1 := Lib.hid st1
      go_wp2_with fail
      go_loopw [8, 11] (fun va iv wr => ∃ I : Nat, I ≤ n ∧ iv = .int .i64 I ∧ WrapR w wr g 1 n cq c va V (unTo V (byt t) n (6 * n) (6 * n - (n * t2 + I)))) (fun _ iv _ => (intOf iv).toNat)
      case atStart => exact ⟨n, Nat.le_refl _, rfl, by have := st1.out; rwa [Nat.mul_succ] at this⟩
      case round =>
        clear st1
        obtain ⟨I, hI, rfl, st2⟩ := hrel
        by_cases hpn : 1 ≤ I
        · have hn9 := hn16.out
          obtain ⟨p, ep⟩ : ∃ p, I = p + 1 := ⟨I - 1, by omega⟩
          have hpn2 : p < n := by omega
          have dl : decide ((I : Int) ≥ 1) = true := decide_eq_true (by omega)
          have f1 : (I : Int) - 1 = (p : Int) := by omega
          have f1' : IntKind.i64.wrap ((I : Int) - 1) = (p : Int) := by rw [IntWalk.i64_in _ (by omega)]; omega
          have f5 : IntKind.i64.wrap (p : Int) = (p : Int) := IntWalk.i64_in _ (by omega)
          have f5' : wrap64 (p : Int) = (p : Int) := IntWalk.wrap64_in _ (by omega)
          have f6 : I < 20 := by omega
          have f2 : (p : Int) < (n : Int) := by omega
          obtain ⟨N, eN⟩ : ∃ N, N = n * t2 := ⟨_, rfl⟩
          have hN : N ≤ 16 * 6 := by rw [eN]; exact Nat.mul_le_mul (by omega) (by omega)
          obtain ⟨M, eM⟩ : ∃ M, M = N + I := ⟨_, rfl⟩
          have eMM : M = n * t2 + I := by rw [eM, eN]
          obtain ⟨hM, hM6⟩ := unw_left eMM (by omega) hn9 hI
          obtain ⟨k, ek⟩ : ∃ k, 6 * n = k + M := ⟨6 * n - M, by omega⟩
          have es := un_step (V := V) (S0 := byt t) eMM hpn hI ek
          have e2 : 6 * n - (n * t2 + I) = k := by omega
          have e3 : 6 * n - (n * t2 + p) = k + 1 := by omega
          rw [e2] at st2
          have m1 : IntKind.i64.wrap ((n : Int) * (t2 : Int)) = (N : Int) := by
            rw [show ((n : Int) * (t2 : Int)) = (N : Int) by rw [eN]; push_cast; rfl]; exact IntWalk.i64_in _ (by omega)
          have m2 : IntKind.i64.wrap ((N : Int) + (I : Int)) = (M : Int) := by rw [IntWalk.i64_in _ (by omega)]; omega
          have bS : ∀ j, unTo V (byt t) n (6 * n) k j < 256 := unTo_lt hV.out (byt_lt st.out) n _ _
          generalize unTo V (byt t) n (6 * n) k = S at *
          have hq1 := q1.out
          have hq2 := en1.out
          have hcut := run_cut_lh (P := Try.prog) (T := 42) (e := 29) Try.underlying42 (by kernel_rfl) (some ⟨g, 1, none⟩) n (cq - 1) p I (by omega) (by omega) (p : Int) (I : Int) rfl rfl
          rw [cutA_some (by omega), show I - p = 1 by omega] at hcut
          have bW := wmix_lt (wblk_lt bS (p + 1)) M
          have cm := r7mixed_any wr.drew _ S (fun i _ => bS i) (st2.a.1.below (Below.refl _ _).drew) M hM
          have st2d := st2.below (w' := wr.drew) (Below.refl _ _).drew
          clear hq1 hq2
          replace st2 := Lib.hid st2
          replace st2d := Lib.hid st2d
          replace es := Lib.hid es
          replace bS := Lib.hid bS
          replace bW := Lib.hid bW
          replace cm := Lib.hid cm
          replace eM := Lib.hid eM
          replace eMM := Lib.hid eMM
          replace eN := Lib.hid eN
          replace hM := Lib.hid hM
          replace hM6 := Lib.hid hM6
          replace hN := Lib.hid hN
          replace ep := Lib.hid ep
          replace hn9 := Lib.hid hn9
          replace e2 := Lib.hid e2
          replace e3 := Lib.hid e3
          replace ek := Lib.hid ek
          go_wp2_with fail
          refine wp_region_held_drew (S := (fun _ => True)) (by kernel_rfl) (trivial) (fun hHeld => ?_)
          refine held_take (i := 0) (v := ?_) rfl (by kernel_rfl) (by kernel_rfl) (by kernel_rfl) (fun _ _ _ h => h) (Or.inl ⟨by rfl, ?_⟩) (by assumption) ?_
          rotate_left
          · intro w hSw; (try dsimp only at hSw); go_simp; try with_reducible rfl
          try simp only [Act.put, List.setIfInBounds_toArray, List.set_cons_zero, List.set_cons_succ]
          refine held_take (i := 1) (v := ?_) rfl (by kernel_rfl) (by kernel_rfl) (by kernel_rfl) (fun _ _ _ h => h) (Or.inl ⟨by rfl, ?_⟩) (by assumption) ?_
          rotate_left
          · intro w hSw; (try dsimp only at hSw); go_simp; try with_reducible rfl
          try simp only [Act.put, List.setIfInBounds_toArray, List.set_cons_zero, List.set_cons_succ]
          refine held_take (i := 2) (v := ?_) rfl (by kernel_rfl) (by kernel_rfl) (by kernel_rfl) (fun _ _ _ h => h) (Or.inl ⟨by rfl, ?_⟩) (by assumption) ?_
          rotate_left
          · intro w hSw; (try dsimp only at hSw); go_simp; try with_reducible rfl
          try simp only [Act.put, List.setIfInBounds_toArray, List.set_cons_zero, List.set_cons_succ]
          refine held_take (i := 3) (v := ?_) rfl (by kernel_rfl) (by kernel_rfl) (by kernel_rfl) (fun _ _ _ h => h) (Or.inl ⟨by rfl, ?_⟩) (by assumption) ?_
          rotate_left
          · intro w hSw; (try dsimp only at hSw); go_simp; try with_reducible rfl
          try simp only [Act.put, List.setIfInBounds_toArray, List.set_cons_zero, List.set_cons_succ]
          refine held_take (i := 4) (v := ?_) rfl (by kernel_rfl) (by kernel_rfl) (by kernel_rfl) (fun _ _ _ h => h) (Or.inl ⟨by rfl, ?_⟩) (by assumption) ?_
          rotate_left
          · intro w hSw; (try dsimp only at hSw); go_simp; try with_reducible rfl
          try simp only [Act.put, List.setIfInBounds_toArray, List.set_cons_zero, List.set_cons_succ]
          refine held_take (i := 5) (v := ?_) rfl (by kernel_rfl) (by kernel_rfl) (by kernel_rfl) (fun _ _ _ h => h) (Or.inl ⟨by rfl, ?_⟩) (by assumption) ?_
          rotate_left
          · intro w hSw; (try dsimp only at hSw); go_simp; try with_reducible rfl
          try simp only [Act.put, List.setIfInBounds_toArray, List.set_cons_zero, List.set_cons_succ]
          refine held_take (i := 6) (v := ?_) rfl (by kernel_rfl) (by kernel_rfl) (by kernel_rfl) (fun _ _ _ h => h) (Or.inl ⟨by rfl, ?_⟩) (by assumption) ?_
          rotate_left
          · intro w hSw; (try dsimp only at hSw); go_simp; try with_reducible rfl
          try simp only [Act.put, List.setIfInBounds_toArray, List.set_cons_zero, List.set_cons_succ]
          refine held_take (i := 7) (v := ?_) rfl (by kernel_rfl) (by kernel_rfl) (by kernel_rfl) (fun _ _ _ h => h) (Or.inl ⟨by rfl, ?_⟩) (by assumption) ?_
          rotate_left
          · intro w hSw; (try dsimp only at hSw); go_simp; try with_reducible rfl
          try simp only [Act.put, List.setIfInBounds_toArray, List.set_cons_zero, List.set_cons_succ]
          refine held_take (i := 9) (v := ?_) rfl (by kernel_rfl) (by kernel_rfl) (by kernel_rfl) (fun _ _ _ h => h) (Or.inl ⟨by rfl, ?_⟩) (by assumption) ?_
          rotate_left
          · intro w hSw; (try dsimp only at hSw); go_simp; try with_reducible rfl
          try simp only [Act.put, List.setIfInBounds_toArray, List.set_cons_zero, List.set_cons_succ]
          refine held_take (i := 10) (v := ?_) rfl (by kernel_rfl) (by kernel_rfl) (by kernel_rfl) (fun _ _ _ h => h) (Or.inl ⟨by rfl, ?_⟩) (by assumption) ?_
          rotate_left
          · intro w hSw; (try dsimp only at hSw); go_simp; try with_reducible rfl
          try simp only [Act.put, List.setIfInBounds_toArray, List.set_cons_zero, List.set_cons_succ]
          refine held_take (i := 11) (v := ?_) rfl (by kernel_rfl) (by kernel_rfl) (by kernel_rfl) (fun _ _ _ h => h) (Or.inl ⟨by rfl, ?_⟩) (by assumption) ?_
          rotate_left
          · intro w hSw; (try dsimp only at hSw); go_simp; try with_reducible rfl
          try simp only [Act.put, List.setIfInBounds_toArray, List.set_cons_zero, List.set_cons_succ]
          refine held_take (i := 12) (v := ?_) rfl (by kernel_rfl) (by kernel_rfl) (by kernel_rfl) (fun _ _ _ h => h) (Or.inl ⟨by rfl, ?_⟩) (by assumption) ?_
          rotate_left
          · intro w hSw; (try dsimp only at hSw); go_simp; try with_reducible rfl
          try simp only [Act.put, List.setIfInBounds_toArray, List.set_cons_zero, List.set_cons_succ]
          refine held_take (i := 13) (v := ?_) rfl (by kernel_rfl) (by kernel_rfl) (by kernel_rfl) (fun _ _ _ h => h) (Or.inl ⟨by rfl, ?_⟩) (by assumption) ?_
          rotate_left
          · intro w hSw; (try dsimp only at hSw); go_simp; try with_reducible rfl
          try simp only [Act.put, List.setIfInBounds_toArray, List.set_cons_zero, List.set_cons_succ]
          refine held_ready (i := 8) rfl (by kernel_rfl) (fun K hK => ?_)
          go_simp
          refine cm.out.mono ?_
          rintro e w3 ⟨v3, rfl, o3, B3⟩
          have st3 := st2d.out.below B3
          have cj := r7join_any w3 v3 _ (o3.text (bytesOf_lt fun i hi => wmix_lt (fun j _ => bS.out j) M i (by omega))) (some ⟨g, 1 + p, none⟩) 1 (cq - 1 - p) _ rfl (st3.text1 hpn2) (by simp [length_bytesOf, length_wordL]) (by decide)
          rw [join_mix] at cj
          have B23 : Below wr.heap.size wr w3 := (Below.refl wr.heap.size wr).drew.trans B3
          clear cm o3 B3
          replace st3 := Lib.hid st3
          replace cj := Lib.hid cj
          replace B23 := Lib.hid B23
          refine hK.out _ _ (trivial) (fun hHeldN => ?_)
          clear hHeld hK K
          have hHeld := hHeldN
          clear hHeldN
          try simp only [Act.put, List.setIfInBounds_toArray, List.set_cons_zero, List.set_cons_succ]
          refine held_ready (i := 14) rfl (by kernel_rfl) (fun K hK => ?_)
          go_simp
          refine cj.out.mono ?_
          rintro e w4 ⟨v4, rfl, o4, B4⟩
          have B24 := B23.out.trans (B4.mono B23.out.size)
          have ct := rback_at (st3.out.below B4).refAt hV.out v4 _ bW.out (o4.text (tabs_lt bW.out))
          clear cj o4 B4 st3 B23
          replace B24 := Lib.hid B24
          replace ct := Lib.hid ct
          refine hK.out _ _ (trivial) (fun hHeldN => ?_)
          clear hHeld hK K
          have hHeld := hHeldN
          clear hHeldN
          try simp only [Act.put, List.setIfInBounds_toArray, List.set_cons_zero, List.set_cons_succ]
          refine held_ready (i := 15) rfl (by kernel_rfl) (fun K hK => ?_)
          go_simp
          refine ct.out.mono ?_
          rintro e w5 ⟨v5, rfl, o5, B5⟩
          have B25 := B24.out.trans (B5.mono B24.out.size)
          have bT := bytes_back hV.out bW.out
          have nx : NotIn v5 g := NotIn.ofOwn o5 (Nat.lt_of_lt_of_le st2.out.lt B24.out.size)
          have t5 := o5.text (tabs_lt bT)
          have eZ : wput S (p + 1) (backF V (wmix (wblk S (p + 1)) M)) = ustep V S I M := by rw [ep.out]; exact (ustep_def V S (p + 1) M).symm
          generalize backF V (wmix (wblk S (p + 1)) M) = x at *
          obtain ⟨ax, cx, rfl, hcx, _⟩ := t5.ex
          have tlo := TextAt.cutHi (hi := 8) t5 (by rw [length_tab]; decide)
          have thi := TextAt.cutLo (lo := 8) t5 (by rw [length_tab]; decide)
          rw [cut_lo] at tlo
          rw [cut_hi] at thi
          rw [length_tab] at nx hcx t5 thi ⊢
          have c1 := run_cut_h (P := Try.prog) (T := 29) (e := 5) Try.underlying29 infoU8s ax 16 cx 8 (by omega) 8 rfl
          have c2 := run_cut_l (P := Try.prog) (T := 29) (e := 5) Try.underlying29 infoU8s ax 16 cx 8 (by decide) 8 rfl
          have n5 : NotIn (.slice ax 8 cx) g := fun ad n' c' e => by
            injection e with e1
            exact nx ad 16 cx (by rw [e1])
          have st6 := st2.out.put B25 hpn2 tlo n5 thi nx.cut
          obtain ⟨uu, cP, fP, _⟩ := (st2.out.below B25).cell hpn2
          rw [eZ, ← es.out] at st6
          clear ct o5 B5 tlo thi nx n5 t5 bT
          replace st6 := Lib.hid st6
          replace B25 := Lib.hid B25
          replace eZ := Lib.hid eZ
          replace hcx := Lib.hid hcx
          refine hK.out _ _ (trivial) (fun hHeldN => ?_)
          clear hHeld hK K
          have hHeld := hHeldN
          clear hHeldN
          try simp only [Act.put, List.setIfInBounds_toArray, List.set_cons_zero, List.set_cons_succ]
          refine held_take (i := 16) (v := ?_) rfl (by kernel_rfl) (by kernel_rfl) (by kernel_rfl) (fun _ _ _ h => h) (Or.inl ⟨by rfl, ?_⟩) (by assumption) ?_
          rotate_left
          · intro w hSw; (try dsimp only at hSw); go_simp; try with_reducible rfl
          try simp only [Act.put, List.setIfInBounds_toArray, List.set_cons_zero, List.set_cons_succ]
          refine wpAnyH_done (by kernel_rfl) ?_ _
          clear hHeld
          clear m1 m2 f1'
          go_wp2_with fail
          go_roundw
          case rel => exact ⟨p, by omega, rfl, by rw [e3.out]; exact st6.out⟩
          case measure => simp [intOf]; have := ep.out; omega
        · obtain rfl : I = 0 := by omega
          simp only [show ((0 : Nat) : Int) = 0 from rfl]
          replace st2 := Lib.hid st2
          go_wp2_with fail
          go_roundw
          case rel => exact ⟨t2, by omega, by go_num, st2.out⟩
          case measure => simp [intOf]
    · obtain rfl : t1 = 0 := by omega
      rw [Nat.mul_zero, Nat.sub_zero] at st1
      simp only [show ((0 : Nat) : Int) - 1 = -1 from rfl]
      have bS : ∀ j, unTo V (byt t) n (6 * n) (6 * n) j < 256 := unTo_lt hV.out (byt_lt st.out) n _ _
      have eR := eU.out
      generalize unTo V (byt t) n (6 * n) (6 * n) = S at *
      have mk := take_marks (F := S) (m := 8 + 8 * n) (by omega)
      have ed : (bytesOf S (8 + 8 * n)).drop 8 = bytesOf (fun j => S (8 + j)) (8 * n) := by rw [bytesOf_add, List.drop_left' (length_bytesOf _ _)]
      obtain ⟨av, cv, rfl, nv⟩ := st1.a.1.nth
      rw [length_bytesOf] at nv ⊢
      have low := st1.low
      generalize bytesOf S (8 + 8 * n) = R at *
      replace st1 := Lib.hid st1
      replace mk := Lib.hid mk
      replace ed := Lib.hid ed
      replace nv := Lib.hid nv
      replace bS := Lib.hid bS
      replace low := Lib.hid low
      replace eR := Lib.hid eR
      go_wp2_with fail
      go_loop [13] (fun iv => ∃ i : Nat, i ≤ 8 ∧ iv = .int .i64 i ∧ ∀ j, j < i → S j = 166) (fun iv => 8 - (intOf iv).toNat)
      case atStart => exact ⟨0, Nat.zero_le _, rfl, fun j hj => by omega⟩
      case round =>
        obtain ⟨i, hi, rfl, hall⟩ := hrel
        by_cases hit : i < 8
        · obtain ⟨vb', vo, rfl, cv1⟩ := nv.out i hit
          rw [byt_bytesOf S hit] at cv1
          have bi := bS.out i
          by_cases h6 : S i = 166
          · have hall2 : ∀ j, j < i + 1 → S j = 166 := fun j hj => by
              by_cases e : j = i
              · subst e; exact h6
              · exact hall j (by omega)
            rw [h6] at cv1
            simp only [show ((166 : Nat) : Int) = 166 from rfl] at cv1
            replace hall := Lib.hid hall
            replace hall2 := Lib.hid hall2
            replace h6 := Lib.hid h6
            replace bi := Lib.hid bi
            go_wp2_with fail
            go_round
            case rel => exact ⟨i + 1, by omega, by go_num, hall2.out⟩
            case measure => simp [intOf]; omega
          · have hno : R.take 8 ≠ List.replicate 8 166 := fun h => h6 (mk.out.1 h i hit)
            have nb : (((S i : Nat) : Int) == 166) = false := beq_eq_false_iff_ne.2 (by omega)
            have nb2 : (((S i : Nat) : Int) != 166) = true := by rw [bne, nb]; rfl
            generalize S i = y at *
            replace hall := Lib.hid hall
            replace h6 := Lib.hid h6
            replace bi := Lib.hid bi
            replace hno := Lib.hid hno
            go_wp2_with fail
            go_ret2
            exact unsays_no eR.out hno.out low.out
        · obtain rfl : i = 8 := by omega
          have hyes : R.take 8 = List.replicate 8 166 := mk.out.2 hall
          simp only [show ((8 : Nat) : Int) = 8 from rfl]
          have hn9 := hn16.out
          have cj := r7join_any wq (.slice none 0 0) [] (TextAt.nil _) (some ⟨g, 1, none⟩) n (cq - 1) _ (by simp) st1.out.texts (by rw [words_flat]; simp [length_bytesOf]; omega) (by omega)
          rw [words_flat, List.nil_append, ← ed.out] at cj
          have sR : ∀ x ∈ R.drop 8, x < 256 := by rw [ed.out]; exact bytesOf_lt fun j _ => bS.out _
          replace hall := Lib.hid hall
          replace hyes := Lib.hid hyes
          replace cj := Lib.hid cj
          replace sR := Lib.hid sR
          replace hn9 := Lib.hid hn9
          go_wp2_with fail
          refine cj.out.mono ?_
          rintro e w3 ⟨v3, rfl, o3, B3⟩
          have lowF := low.out.trans (B3.mono low.out.size)
          have tF := o3.text sR.out
          replace o3 := Lib.hid o3
          replace B3 := Lib.hid B3
          replace lowF := Lib.hid lowF
          replace tF := Lib.hid tF
          go_wp2_with fail
          go_ret2
          exact unsays_yes eR.out hyes.out tF.out lowF.out
end Go.Proofs.Ytnadgjlmlnhknaa
