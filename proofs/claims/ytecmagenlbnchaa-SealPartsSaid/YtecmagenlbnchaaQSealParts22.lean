/-
  SealParts. Conditions: a key of 32 bytes; numbers of 64 bits.
-/
import Derived.Test.YtecmagenlbnchaaQSealBack22
import Derived.Test.YtecmagenlbnchaaQSecApart
import Derived.Deep.CutRange
import Derived.IntWalk
namespace Go.Proofs.Ytecmagenlbnchaa
set_option maxRecDepth 100000
open Go.RowKit

theorem flip_ne {x c : Nat} (hc : c ≠ 0) : x ^^^ c ≠ x := fun e => hc (by
  have h : x ^^^ (x ^^^ c) = x ^^^ x := by rw [e]
  rwa [← Nat.xor_assoc, Nat.xor_self, Nat.zero_xor] at h)
/-- Where a byte is turned blocks of sixteen are unlike, there alone. -/
theorem parts_apart {P : List Nat} {i k d : Nat} (hP : P.length = 512) (hi : i < 512) (hk : k < 32) (hd : d ≠ byt P i) : ((P.drop (16 * k)).take 16 == ((P.set i d).drop (16 * k)).take 16) = !(decide (k = i / 16)) := by
  rw [seg_tab (by omega), seg_tab (by rw [List.length_set]; omega), Bool.eq_iff_iff, beq_iff_eq]
  have hb : ∀ j, j < 512 → byt (P.set i d) j = if j = i then d else byt P j := fun j hj => by
    simp only [byt, List.getD, List.getElem?_set]
    by_cases h : i = j
    · subst h; simp [hP, hi]
    · rw [if_neg h, if_neg (fun e => h e.symm)]
  constructor
  · intro h
    have hs := same_tab h
    simp only [Bool.not_eq_true', decide_eq_false_iff_not]
    intro e
    have h2 := hs (i % 16) (Nat.mod_lt _ (by decide))
    simp only at h2
    rw [e, show 16 * (i / 16) + i % 16 = i by omega, hb i hi, if_pos rfl] at h2
    exact hd h2.symm
  · intro h
    simp only [Bool.not_eq_true', decide_eq_false_iff_not] at h
    refine tab_eq fun j hj => ?_
    show byt P (16 * k + j) = byt (P.set i d) (16 * k + j)
    rw [hb _ (by omega), if_neg (by omega)]
theorem turn_parts (m : List Nat) (n s : Nat) {P Q : List Nat} {k : Nat} (lP : P.length = 512) (lQ : Q.length = 512) (sP : ∀ x ∈ P, x < 256) (sQ : ∀ x ∈ Q, x < 256) (hk : k < 32) :
    (((slturnL m n s P).drop (16 * k)).take 16 == ((slturnL m n s Q).drop (16 * k)).take 16) = ((P.drop (16 * k)).take 16 == (Q.drop (16 * k)).take 16) :=
  sec_apart (fun x y h => same_turn h) (fun x y hx hy h => turn_inj (vol1_lt m n) hx hy h) (bytes_turn (vol2_lt m n) (twk_lt s)) lP lQ sP sQ (by omega)
set_option maxHeartbeats 4000000 in
set_option maxRecDepth 100000 in
theorem sealParts_law (w : World) (m : List Nat) (n s : Nat) (lm : m.length = 32) (sm : ∀ x ∈ m, x < 256) (hn : n < 18446744073709551616) (v : Value) (l : List Nat) (ht : TextAt w v l) (at_ : Int) (by_ : Nat) (hby : by_ < 256) :
    Calls Try.prog 5 #[.agg (u8s m), .int .u64 (n : Int), .int .u64 (s : Int), v, .int .i64 at_, .int .u8 (by_ : Int)] w fun e w' => e = .returned (.bool true) ∧ Below w.heap.size w w' := by
  have r0 : RowB (w.alloc (.cells (u8s m) 23)) w.heap.size 23 m := heap_alloc_new _ _
  have b0 : Below w.heap.size w (w.alloc (.cells (u8s m) 23)) := (Below.refl _ _).alloc (Nat.le_refl _) _
  have t0 := ht.below b0
  have iM := infoKey lm
  have al := Lib.hid (fun wx => alive22 wx)
  have st := ht.small
  obtain ⟨ao, cap, rfl, _⟩ := ht.ex
  have dd : decide ((l.length : Int) > 512) = true ∨ (decide ((l.length : Int) > 512) = false ∧ decide (at_ < 0) = true) ∨ (decide ((l.length : Int) > 512) = false ∧ decide (at_ < 0) = false ∧ decide (at_ > 511) = true) ∨
      (decide ((l.length : Int) > 512) = false ∧ decide (at_ < 0) = false ∧ decide (at_ > 511) = false ∧ ((by_ : Int) == 0) = true) ∨ (l.length ≤ 512 ∧ 0 ≤ at_ ∧ at_ ≤ 511 ∧ by_ ≠ 0) := by
    simp only [decide_eq_true_eq, decide_eq_false_iff_not, beq_iff_eq]
    omega
  replace r0 := Lib.hid r0
  replace b0 := Lib.hid b0
  replace t0 := Lib.hid t0
  replace iM := Lib.hid iM
  replace ht := Lib.hid ht
  replace lm := Lib.hid lm
  replace sm := Lib.hid sm
  replace st := Lib.hid st
  rcases dd with d1 | ⟨d1, d2⟩ | ⟨d1, d2, d3⟩ | ⟨d1, d2, d3, d4⟩ | ⟨h1, h2, h3, h4⟩
  ·
    generalize l.length = k at *
    go_enter Try.func5, Try.ntmps5
    go_wp2_with fail
    refine (al.out _).mono ?_
    rintro e w2 ⟨rfl, B2⟩
    have low := b0.out.trans (B2.mono b0.out.size)
    replace low := Lib.hid low
    go_wp2_with fail
    go_ret
    exact ⟨rfl, low.out⟩
  ·
    generalize l.length = k at *
    go_enter Try.func5, Try.ntmps5
    go_wp2_with fail
    refine (al.out _).mono ?_
    rintro e w2 ⟨rfl, B2⟩
    have low := b0.out.trans (B2.mono b0.out.size)
    replace low := Lib.hid low
    go_wp2_with fail
    go_ret
    exact ⟨rfl, low.out⟩
  ·
    generalize l.length = k at *
    go_enter Try.func5, Try.ntmps5
    go_wp2_with fail
    refine (al.out _).mono ?_
    rintro e w2 ⟨rfl, B2⟩
    have low := b0.out.trans (B2.mono b0.out.size)
    replace low := Lib.hid low
    go_wp2_with fail
    go_ret
    exact ⟨rfl, low.out⟩
  ·
    generalize l.length = k at *
    go_enter Try.func5, Try.ntmps5
    go_wp2_with fail
    refine (al.out _).mono ?_
    rintro e w2 ⟨rfl, B2⟩
    have low := b0.out.trans (B2.mono b0.out.size)
    replace low := Lib.hid low
    go_wp2_with fail
    go_ret
    exact ⟨rfl, low.out⟩
  obtain ⟨i, rfl⟩ : ∃ i : Nat, at_ = (i : Int) := ⟨at_.toNat, by omega⟩
  have hi : i < 512 := by omega
  have d1 : decide ((l.length : Int) > 512) = false := decide_eq_false (by omega)
  have d2 : decide ((i : Int) < 0) = false := decide_eq_false (by omega)
  have d3 : decide ((i : Int) > 511) = false := decide_eq_false (by omega)
  have d4 : ((by_ : Int) == 0) = false := beq_eq_false_iff_ne.2 (by omega)
  have cb := fun wx h => block_any wx (.slice ao l.length cap) l h h1
  have lP := blockL_length (t := l) h1
  have sP := blockL_small st.out
  generalize blockL l = P at *
  have hx := byt_lt sP i
  have ex := u8_xor_nat _ _ hx hby
  have hd2 : byt P i ^^^ by_ < 256 := Nat.xor_lt_two_pow (n := 8) hx hby
  have hne : byt P i ^^^ by_ ≠ byt P i := flip_ne h4
  have hpa := fun k (hk : k < 32) => parts_apart (P := P) (i := i) (k := k) (d := byt P i ^^^ by_) lP hi hk hne
  have lQ : (P.set i (byt P i ^^^ by_)).length = 512 := by rw [List.length_set]; exact lP
  have sQ : ∀ x ∈ P.set i (byt P i ^^^ by_), x < 256 := fun x hx => by
    rcases List.mem_or_eq_of_mem_set hx with h | h
    · exact sP x h
    · rw [h]; exact hd2
  generalize byt P i ^^^ by_ = D at *
  generalize hX : byt P i = X at *
  obtain ⟨Q, eQ⟩ : ∃ Q, Q = P.set i D := ⟨_, rfl⟩
  rw [← eQ] at lQ sQ
  simp only [← eQ] at hpa
  have hap := fun k (hk : k < 32) => (turn_parts m n s lP lQ sP sQ hk).trans (hpa k hk)
  have lA := slturnL_length m n s P
  have sA := slturnL_small (m := m) (n := n) (s := s) sP
  have lB := slturnL_length m n s Q
  have sB := slturnL_small (m := m) (n := n) (s := s) sQ
  have eA : slturnT m n s P = slturnL m n s P := if_pos lP
  have eB : slturnT m n s Q = slturnL m n s Q := if_pos lQ
  have c1 := fun wx v (h : TextAt wx v P) => sealturn_any wx m n s lm.out sm.out hn v P h
  have c2 := fun wx v (h : TextAt wx v Q) => sealturn_any wx m n s lm.out sm.out hn v Q h
  rw [eA, lP, show slE 512 = 0 from rfl] at c1
  rw [eB, lQ, show slE 512 = 0 from rfl] at c2
  clear eA eB hpa hne h4 h1 h2 h3
  generalize slturnL m n s P = A at *
  generalize slturnL m n s Q = B at *
  replace cb := Lib.hid cb
  replace lP := Lib.hid lP
  replace sP := Lib.hid sP
  replace lQ := Lib.hid lQ
  replace sQ := Lib.hid sQ
  replace c1 := Lib.hid c1
  replace c2 := Lib.hid c2
  replace lA := Lib.hid lA
  replace sA := Lib.hid sA
  replace lB := Lib.hid lB
  replace sB := Lib.hid sB
  replace hap := Lib.hid hap
  replace eQ := Lib.hid eQ
  replace hX := Lib.hid hX
  replace hi := Lib.hid hi
  generalize l.length = k at *
  go_enter Try.func5, Try.ntmps5
  go_wp2_with fail
  refine (cb.out _ t0.out).mono ?_
  rintro e w1 ⟨g1, rfl, R1, hg1, B1⟩
  have L1 := b0.out.trans (B1.mono b0.out.size)
  have r1 := r0.out.below B1 r0.out.lt
  have t1 := t0.out.below B1
  clear B1 r0 t0 b0 hg1
  replace L1 := Lib.hid L1
  replace r1 := Lib.hid r1
  replace t1 := Lib.hid t1
  replace R1 := Lib.hid R1
  go_wp2_with fail
  refine (cb.out _ t1.out).mono ?_
  rintro e w2 ⟨g2, rfl, R2, hg2, B2⟩
  have L2 := L1.out.trans (B2.mono L1.out.size)
  have r2 := r1.out.below B2 r1.out.lt
  have P2 := R1.out.below B2 R1.out.lt
  have c5 := R2.byt (i := i) (by rw [lP.out]; exact hi.out)
  rw [hX.out] at c5
  have f5 := R2.frozen i
  have hgg : g1 ≠ g2 := by have := R1.out.lt; omega
  have hg0 : w.heap.size ≠ g2 := by have := r1.out.lt; omega
  have hg3 : w.heap.size ≤ g2 := Nat.le_trans L1.out.size hg2
  have R3 := R2.set i D
  rw [← eQ.out] at R3
  have U3 : Upd (fun j => j = g2) w2 (w2.setCell ⟨g2, i, none⟩ (.int .u8 (D : Int))) := (Upd.refl _ _).setCell _ _ (fun _ => rfl)
  have r3 := r2.other (U3.block _ r2.lt hg0)
  have P3 := P2.other (U3.block _ P2.lt hgg)
  have L3 := L2.trans (U3.below (fun k hk e => by omega) L2.size)
  have hi2 := hi.out
  clear R2 r2 P2 U3 B2 r1 t1 L1 R1 hg2 hgg hg0 cb hg3 L2
  replace r3 := Lib.hid r3
  replace P3 := Lib.hid P3
  replace L3 := Lib.hid L3
  replace R3 := Lib.hid R3
  go_upto_region 6 with fail
  generalize w2.setCell ⟨g2, i, none⟩ (.int .u8 (D : Int)) = w3 at *
  clear c5 f5
  go_wp2_with (first
    | refine wpList_load_b (by rfl) 23 (.tmp 6) rfl w.heap.size rfl 23 m r3.out _ Try.underlying23 rfl iM.out ?_)
  refine (c1.out _ _ (row_whole P3.out sP.out lP.out)).mono ?_
  rintro e w4 ⟨x4, rfl, T4, B4⟩
  have L4 := L3.out.trans (B4.mono L3.out.size)
  have r4 := r3.out.below B4 r3.out.lt
  have R4 := R3.out.below B4 R3.out.lt
  clear c1 B4 r3 P3 R3 L3
  replace L4 := Lib.hid L4
  replace r4 := Lib.hid r4
  replace R4 := Lib.hid R4
  replace T4 := Lib.hid T4
  go_wp2_with (first
    | refine wpList_load_b (by rfl) 23 (.tmp 6) rfl w.heap.size rfl 23 m r4.out _ Try.underlying23 rfl iM.out ?_)
  refine (c2.out _ _ (row_whole R4.out sQ.out lQ.out)).mono ?_
  rintro e w5 ⟨x5, rfl, T5, B5⟩
  have L5 := L4.out.trans (B5.mono L4.out.size)
  have T6 := T4.out.below B5
  clear c2 B5 r4 R4 T4 L4
  obtain ⟨aa, ca, ea, ha, _⟩ := T6.ex
  obtain ⟨ab, cb, eb, hb, _⟩ := T5.ex
  rw [lA.out] at ea ha
  rw [lB.out] at eb hb
  subst ea; subst eb
  replace L5 := Lib.hid L5
  replace T5 := Lib.hid T5
  replace T6 := Lib.hid T6
  replace ha := Lib.hid ha
  replace hb := Lib.hid hb
  go_wp2_with fail
  obtain ⟨d, ed⟩ : ∃ d, d = i / 16 := ⟨_, rfl⟩
  obtain ⟨p, ep⟩ : ∃ p, p = 16 * d := ⟨_, rfl⟩
  have hd32 : d < 32 := by omega
  have q1 : IntKind.i64.wrap ((i : Int) / 16) = (d : Int) := by rw [show (i : Int) / 16 = (d : Int) by omega]; exact IntWalk.i64_in _ (by omega)
  have q2 : IntKind.i64.wrap ((d : Int) * 16) = (p : Int) := by rw [show (d : Int) * 16 = (p : Int) by omega]; exact IntWalk.i64_in _ (by omega)
  have q3 : (i : Int).tdiv 16 = (d : Int) := by rw [Int.tdiv_eq_ediv_of_nonneg (by omega)]; omega
  have q4 : IntKind.i64.wrap (d : Int) = (d : Int) := IntWalk.i64_in _ (by omega)
  have q5 : IntKind.i64.wrap (p : Int) = (p : Int) := IntWalk.i64_in _ (by omega)
  simp only [← ed] at hap
  replace ed := Lib.hid ed
  replace q1 := Lib.hid q1
  replace q2 := Lib.hid q2
  replace q3 := Lib.hid q3
  replace q4 := Lib.hid q4
  replace q5 := Lib.hid q5
  replace ep := Lib.hid ep
  go_loopw [19] (fun iv wr => ∃ k a : Nat, k ≤ 32 ∧ a = 16 * k ∧ iv = .int .i64 a ∧ Below w5.heap.size w5 wr) (fun iv _ => 512 - (intOf iv).toNat)
  case atStart => exact ⟨0, 0, Nat.zero_le _, rfl, rfl, Below.refl _ _⟩
  case round =>
    obtain ⟨k, a, hk, eak, rfl, Br⟩ := hrel
    by_cases hlt : k < 32
    · have h16 : a + 16 ≤ 512 := by omega
      have dl : decide ((a : Int) < 512) = true := decide_eq_true (by omega)
      have dn : decide (a < 512) = true := decide_eq_true (by omega)
      have f0 : IntKind.i64.wrap ((a : Int) + 16) = (a : Int) + 16 := IntWalk.i64_in _ (by omega)
      have f1 : (0 : Int) ≤ (a : Int) + 16 := by omega
      have cut := fun (ao : Option Addr) (cap : Nat) (hc : 512 ≤ cap) => run_cut_lh (P := Try.prog) Try.underlying25 infoU8s ao 512 cap a (a + 16) (by omega) (by omega) (a : Int) ((a : Int) + 16) rfl (by omega)
      simp only [show a + 16 - a = 16 by omega] at cut
      have seg : ∀ (wx : World) (ao : Option Addr) (cap : Nat) (l : List Nat), l.length = 512 → TextAt wx (.slice ao 512 cap) l → TextAt wx (.slice (cutA ao cap a) 16 (cap - a)) ((l.drop a).take 16) := fun wx ao cap l el tl => by
        have h5 := TextAt.cut (t := l) (ao := ao) (cap := cap) (lo := a) (hi := a + 16) (by rw [el]; exact tl) (by omega) (by omega)
        rwa [show a + 16 - a = 16 by omega] at h5
      have Tx := seg wr.drew aa ca A lA.out ((T6.out.below Br).drew)
      have Ty := seg wr.drew ab cb B lB.out ((T5.out.below Br).drew)
      have k1 := cut aa ca ha.out
      have k2 := cut ab cb hb.out
      have hA := hap.out k hlt
      rw [← eak] at hA
      have e3 := str_lst (seg_small sA.out a) (seg_small sB.out a)
      have e4 := str_dec (seg_small sA.out a) (seg_small sB.out a)
      rw [hA] at e3 e4
      have q6 : ((a : Int) == (p : Int)) = decide (k = d) := by
        rw [Bool.eq_iff_iff, beq_iff_eq, decide_eq_true_iff]
        have := ep.out
        omega
      have q7 : ((a : Int) != (p : Int)) = !decide (k = d) := by rw [bne, q6]
      clear cut seg hA
      generalize (A.drop a).take 16 = Sx at *
      generalize (B.drop a).take 16 = Sy at *
      have q1' := q1.out
      have q2' := q2.out
      have q3' := q3.out
      have q4' := q4.out
      have q5' := q5.out
      replace Br := Lib.hid Br
      replace eak := Lib.hid eak
      replace h16 := Lib.hid h16
      replace hk := Lib.hid hk
      cases hkd : decide (k = d)
      all_goals
        rw [hkd] at e3 e4 q6 q7
        simp only [Bool.not_false, Bool.not_true] at e3 e4 q7
        clear hkd
        go_wp2_with fail
        refine wp_region_held_drew (S := (fun w' => TextAt w' (.slice (cutA aa ca a) 16 (ca - a)) Sx ∧ TextAt w' (.slice (cutA ab cb a) 16 (cb - a)) Sy)) (by kernel_rfl) (⟨Tx, Ty⟩) (fun hHeld => ?_)
        refine held_take (i := 0) (v := ?_) rfl (by kernel_rfl) (by kernel_rfl) (by kernel_rfl) (fun _ _ _ h => h) (Or.inl ⟨by rfl, ?_⟩) (by assumption) ?_
        rotate_left
        · intro w hSw; (try dsimp only at hSw); go_simp; try with_reducible rfl
        try simp only [Act.put, List.setIfInBounds_toArray, List.set_cons_zero, List.set_cons_succ]
        refine held_take (i := 1) (v := ?_) rfl (by kernel_rfl) (by kernel_rfl) (by kernel_rfl) (fun _ _ _ h => h) (Or.inl ⟨by rfl, ?_⟩) (by assumption) ?_
        rotate_left
        · intro w hSw; (try dsimp only at hSw); go_simp; try with_reducible rfl
        try simp only [Act.put, List.setIfInBounds_toArray, List.set_cons_zero, List.set_cons_succ]
        refine held_take (i := 2) (v := ?_) rfl (by kernel_rfl) (by kernel_rfl) (by kernel_rfl) (fun _ _ _ h => h) (Or.inl ⟨by rfl, ?_⟩) (by assumption) ?_
        rotate_left
        · intro w hSw; (try dsimp only at hSw); go_simp; try with_reducible rfl
        try simp only [Act.put, List.setIfInBounds_toArray, List.set_cons_zero, List.set_cons_succ]
        refine held_take (i := 3) (v := ?_) rfl (by kernel_rfl) (by kernel_rfl) (by kernel_rfl) (fun _ _ _ h => h) (Or.inl ⟨by rfl, ?_⟩) (by assumption) ?_
        rotate_left
        · intro w hSw; (try dsimp only at hSw); go_simp; try with_reducible rfl
        try simp only [Act.put, List.setIfInBounds_toArray, List.set_cons_zero, List.set_cons_succ]
        refine held_take (i := 4) (v := ?_) rfl (by kernel_rfl) (by kernel_rfl) (by kernel_rfl) (fun _ _ _ h => h) (Or.inl ⟨by rfl, ?_⟩) (by assumption) ?_
        rotate_left
        · intro w hSw; (try dsimp only at hSw); go_simp; try with_reducible rfl
        try simp only [Act.put, List.setIfInBounds_toArray, List.set_cons_zero, List.set_cons_succ]
        refine held_take (i := 5) (v := _) rfl (by kernel_rfl) (by kernel_rfl) (by kernel_rfl) (fun _ _ _ h => h) (yieldsIf_str (by rfl) rfl rfl (v := .slice (cutA aa ca a) 16 (ca - a)) (fun w' h => h.1)) (by assumption) ?_
        try simp only [Act.put, List.setIfInBounds_toArray, List.set_cons_zero, List.set_cons_succ]
        refine held_take (i := 6) (v := ?_) rfl (by kernel_rfl) (by kernel_rfl) (by kernel_rfl) (fun _ _ _ h => h) (Or.inl ⟨by rfl, ?_⟩) (by assumption) ?_
        rotate_left
        · intro w hSw; (try dsimp only at hSw); go_simp; try with_reducible rfl
        try simp only [Act.put, List.setIfInBounds_toArray, List.set_cons_zero, List.set_cons_succ]
        refine held_take (i := 7) (v := ?_) rfl (by kernel_rfl) (by kernel_rfl) (by kernel_rfl) (fun _ _ _ h => h) (Or.inl ⟨by rfl, ?_⟩) (by assumption) ?_
        rotate_left
        · intro w hSw; (try dsimp only at hSw); go_simp; try with_reducible rfl
        try simp only [Act.put, List.setIfInBounds_toArray, List.set_cons_zero, List.set_cons_succ]
        refine held_take (i := 8) (v := ?_) rfl (by kernel_rfl) (by kernel_rfl) (by kernel_rfl) (fun _ _ _ h => h) (Or.inl ⟨by rfl, ?_⟩) (by assumption) ?_
        rotate_left
        · intro w hSw; (try dsimp only at hSw); go_simp; try with_reducible rfl
        try simp only [Act.put, List.setIfInBounds_toArray, List.set_cons_zero, List.set_cons_succ]
        refine held_take (i := 9) (v := ?_) rfl (by kernel_rfl) (by kernel_rfl) (by kernel_rfl) (fun _ _ _ h => h) (Or.inl ⟨by rfl, ?_⟩) (by assumption) ?_
        rotate_left
        · intro w hSw; (try dsimp only at hSw); go_simp; try with_reducible rfl
        try simp only [Act.put, List.setIfInBounds_toArray, List.set_cons_zero, List.set_cons_succ]
        refine held_take (i := 10) (v := ?_) rfl (by kernel_rfl) (by kernel_rfl) (by kernel_rfl) (fun _ _ _ h => h) (Or.inl ⟨by rfl, ?_⟩) (by assumption) ?_
        rotate_left
        · intro w hSw; (try dsimp only at hSw); go_simp; try with_reducible rfl
        try simp only [Act.put, List.setIfInBounds_toArray, List.set_cons_zero, List.set_cons_succ]
        refine held_take (i := 11) (v := _) rfl (by kernel_rfl) (by kernel_rfl) (by kernel_rfl) (fun _ _ _ h => h) (yieldsIf_str (by rfl) rfl rfl (v := .slice (cutA ab cb a) 16 (cb - a)) (fun w' h => h.2)) (by assumption) ?_
        try simp only [Act.put, List.setIfInBounds_toArray, List.set_cons_zero, List.set_cons_succ]
        refine held_take (i := 12) (v := ?_) rfl (by kernel_rfl) (by kernel_rfl) (by kernel_rfl) (fun _ _ _ h => h) (Or.inl ⟨by rfl, ?_⟩) (by assumption) ?_
        rotate_left
        · intro w hSw; (try dsimp only at hSw); go_simp; try with_reducible rfl
        try simp only [Act.put, List.setIfInBounds_toArray, List.set_cons_zero, List.set_cons_succ]
        refine held_take (i := 13) (v := ?_) rfl (by kernel_rfl) (by kernel_rfl) (by kernel_rfl) (fun _ _ _ h => h) (Or.inl ⟨by rfl, ?_⟩) (by assumption) ?_
        rotate_left
        · intro w hSw; (try dsimp only at hSw); go_simp; try with_reducible rfl
        try simp only [Act.put, List.setIfInBounds_toArray, List.set_cons_zero, List.set_cons_succ]
        refine held_take (i := 14) (v := ?_) rfl (by kernel_rfl) (by kernel_rfl) (by kernel_rfl) (fun _ _ _ h => h) (Or.inl ⟨by rfl, ?_⟩) (by assumption) ?_
        rotate_left
        · intro w hSw; (try dsimp only at hSw); go_simp; try with_reducible rfl
        try simp only [Act.put, List.setIfInBounds_toArray, List.set_cons_zero, List.set_cons_succ]
        refine held_take (i := 15) (v := ?_) rfl (by kernel_rfl) (by kernel_rfl) (by kernel_rfl) (fun _ _ _ h => h) (Or.inl ⟨by rfl, ?_⟩) (by assumption) ?_
        rotate_left
        · intro w hSw; (try dsimp only at hSw); go_simp; try with_reducible rfl
        try simp only [Act.put, List.setIfInBounds_toArray, List.set_cons_zero, List.set_cons_succ]
        refine held_take (i := 16) (v := ?_) rfl (by kernel_rfl) (by kernel_rfl) (by kernel_rfl) (fun _ _ _ h => h) (Or.inl ⟨by rfl, ?_⟩) (by assumption) ?_
        rotate_left
        · intro w hSw; (try dsimp only at hSw); go_simp; try with_reducible rfl
        try simp only [Act.put, List.setIfInBounds_toArray, List.set_cons_zero, List.set_cons_succ]
        refine held_take (i := 17) (v := ?_) rfl (by kernel_rfl) (by kernel_rfl) (by kernel_rfl) (fun _ _ _ h => h) (Or.inl ⟨by rfl, ?_⟩) (by assumption) ?_
        rotate_left
        · intro w hSw; (try dsimp only at hSw); go_simp; try with_reducible rfl
        try simp only [Act.put, List.setIfInBounds_toArray, List.set_cons_zero, List.set_cons_succ]
        refine held_take (i := 18) (v := ?_) rfl (by kernel_rfl) (by kernel_rfl) (by kernel_rfl) (fun _ _ _ h => h) (Or.inl ⟨by rfl, ?_⟩) (by assumption) ?_
        rotate_left
        · intro w hSw; (try dsimp only at hSw); go_simp; try with_reducible rfl
        try simp only [Act.put, List.setIfInBounds_toArray, List.set_cons_zero, List.set_cons_succ]
        refine wpAnyH_done (by kernel_rfl) ?_ _
        clear hHeld
        go_wp2_with fail
        go_roundw
        case rel => exact ⟨k + 1, a + 16, by have := h16.out; have := eak.out; omega, by have := eak.out; omega, by go_num, Br.out.drew⟩
        case measure => simp [intOf]; have := h16.out; omega
    · obtain rfl : k = 32 := by omega
      obtain rfl : a = 512 := by omega
      simp only [show ((512 : Nat) : Int) = 512 from rfl]
      have low9 := L5.out.trans (Br.mono L5.out.size)
      replace Br := Lib.hid Br
      replace low9 := Lib.hid low9
      go_wp2_with fail
      refine (al.out _).mono ?_
      rintro e w7 ⟨rfl, B7⟩
      have low7 := low9.out.trans (B7.mono low9.out.size)
      replace low7 := Lib.hid low7
      go_wp2_with fail
      go_ret
      exact ⟨rfl, low7.out⟩
end Go.Proofs.Ytecmagenlbnchaa
