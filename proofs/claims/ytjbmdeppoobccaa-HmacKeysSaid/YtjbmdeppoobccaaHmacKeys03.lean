/-
  Layer 3's law HmacKeys. Condition: none but the texts' reading.
-/
import Derived.Test.YtjbmdeppoobccaaLaw03
import Derived.Test.YtjbmdeppoobccaaCut
namespace Go.Proofs.Ytjbmdeppoobccaa
open Go.RowKit

theorem macs_long (key t : List Nat) (h : 64 < key.length) : macs (sumOf key) t = macs key t := by
  have e1 : hkey (sumOf key) = sumOf key := by unfold hkey; rw [if_neg (by rw [sumOf_length]; omega)]
  have e2 : hkey key = sumOf key := by unfold hkey; rw [if_pos h]
  unfold macs
  rw [e1, e2]

set_option maxRecDepth 100000 in
set_option maxHeartbeats 4000000 in
theorem hkeys_any (w : World) (key b : List Nat) (nk nb : Nat) (ak ab : Option Addr) (ck cb : Nat) (more : Int) (hk : TextAt w (.slice ak nk ck) key) (hb : TextAt w (.slice ab nb cb) b) (ek : key.length = nk) (eb : b.length = nb) (hn : nk < 9223372036854775808) (hm : nb < 9223372036854775808) :
    Calls Try.prog 7 #[.slice ak nk ck, .slice ab nb cb, .int .i64 more] w fun e w' => e = .returned (.bool true) ∧ Below w.heap.size w w' := by
  replace hk := Lib.hid hk
  replace hb := Lib.hid hb
  replace ek := Lib.hid ek
  replace eb := Lib.hid eb
  have d1 : (300 : Int) < (nk : Int) ∨ ¬ (300 : Int) < (nk : Int) := by omega
  have d2 : (2000 : Int) < (nb : Int) ∨ ¬ (2000 : Int) < (nb : Int) := by omega
  have d3 : more < 0 ∨ ¬ more < 0 := by omega
  have d4 : 64 < more ∨ ¬ 64 < more := by omega
  rcases d1 with d1 | d1
  ·
    go_enter Try.func7, Try.ntmps7
    go_wp2_with fail
    refine (alive03 _).mono ?_
    rintro e w1 ⟨rfl, B1⟩
    go_wp2_with fail
    go_ret
    exact ⟨rfl, B1⟩
  rcases d2 with d2 | d2
  ·
    go_enter Try.func7, Try.ntmps7
    go_wp2_with fail
    refine (alive03 _).mono ?_
    rintro e w1 ⟨rfl, B1⟩
    go_wp2_with fail
    go_ret
    exact ⟨rfl, B1⟩
  rcases d3 with d3 | d3
  ·
    go_enter Try.func7, Try.ntmps7
    go_wp2_with fail
    refine (alive03 _).mono ?_
    rintro e w1 ⟨rfl, B1⟩
    go_wp2_with fail
    go_ret
    exact ⟨rfl, B1⟩
  rcases d4 with d4 | d4
  ·
    go_enter Try.func7, Try.ntmps7
    go_wp2_with fail
    refine (alive03 _).mono ?_
    rintro e w1 ⟨rfl, B1⟩
    go_wp2_with fail
    go_ret
    exact ⟨rfl, B1⟩
  obtain ⟨m, rfl⟩ : ∃ m : Nat, more = m := ⟨more.toNat, by omega⟩
  have mc := mac_text w (.slice ak nk ck) (.slice ab nb cb) key b hk.out hb.out (by rw [ek.out]; omega) (by rw [eb.out]; omega)
  have iA := info_sum (padBy 92 (hkey key) ++ sumOf (padBy 54 (hkey key) ++ b))
  rw [show sumOf (padBy 92 (hkey key) ++ sumOf (padBy 54 (hkey key) ++ b)) = macs key b from rfl] at iA
  have lA := macs_length key b
  have sA := macs_small key b
  obtain ⟨A, hA⟩ : ∃ A, A = macs key b := ⟨_, rfl⟩
  rw [← hA] at mc iA lA sA
  have lA' : (u8s A).size = 32 := by simp [u8s, lA]
  have q1 := fun (x : World) => run_equal_arr (P := Try.prog) Try.underlying27 Try.underlying5 (by kernel_rfl) sA sA lA lA x
  rw [beq_self_eq_true] at q1
  replace lA := Lib.hid lA
  replace sA := Lib.hid sA
  replace hA := Lib.hid hA
  replace mc := Lib.hid mc
  have d64 : (64 : Int) < (nk : Int) ∨ ¬ (64 : Int) < (nk : Int) := by omega
  rcases d64 with d64 | d64
  · have hlong := macs_long key b (by rw [ek.out]; omega)
    rw [← hA.out] at hlong
    replace hlong := Lib.hid hlong
    go_enter Try.func7, Try.ntmps7
    go_wp2_with fail
    refine mc.out.mono ?_
    rintro e w1 ⟨rfl, B1⟩
    have s1 := B1.size
    replace B1 := Lib.hid B1
    clear mc
    go_wp2_with (first
      | (refine wpList_store_n (by rfl) 27 (.tmp 7) (.tmp 30) rfl A rfl rfl iA (by rw [lA']; rfl) ?_; intro w2 R2 B2
         have b2 : Below w.heap.size w w2 := B1.out.trans (B2.out.mono s1)
         have s2 := b2.size
         have lr2 := R2.out.lt
         replace b2 := Lib.hid b2))
    refine (sumf_text w2 _ key (hk.out.below b2.out) (by rw [ek.out]; omega)).mono ?_
    rintro e w3 ⟨rfl, B3⟩
    have R3 : RowB w3 w1.heap.size 27 A := R2.out.other (B3.block _ lr2)
    have b3 : Below w.heap.size w w3 := b2.out.trans (B3.mono s2)
    have s3 := b3.size
    have lr3 := R3.lt
    have iK := info_sum key
    have lK : (u8s (sumOf key)).size = 32 := size_sumOf _
    replace R3 := Lib.hid R3
    replace b3 := Lib.hid b3
    replace B3 := Lib.hid B3
    go_wp2_with (first
      | (refine wpList_store_n (by rfl) 27 (.tmp 8) (.tmp 35) rfl (sumOf key) rfl rfl iK (by rw [lK]; rfl) ?_; intro w4 R4 B4))
    have A4 : RowB w4.drew w1.heap.size 27 A := R3.out.other (B4.out.block _ lr3)
    have K4 : RowB w4.drew w3.heap.size 27 (sumOf key) := R4.out
    have b4 : Below w.heap.size w w4.drew := (b3.out.trans (B4.out.mono s3)).drew
    have s4 := b4.size
    replace A4 := Lib.hid A4
    replace K4 := Lib.hid K4
    replace b4 := Lib.hid b4
    refine wp_region_held_drew (S := (fun w' => RowB w' w1.heap.size 27 A)) (by kernel_rfl) (A4.out) (fun hHeld => ?_)
    refine held_ready (i := 0) rfl (by kernel_rfl) (fun K hK => ?_)
    go_simp
    refine (alive03 _).mono ?_
    rintro e w5 ⟨rfl, B5⟩
    have A5 : RowB w5 w1.heap.size 27 A := A4.out.other (B5.block _ A4.out.lt)
    have K5 : RowB w5 w3.heap.size 27 (sumOf key) := K4.out.other (B5.block _ K4.out.lt)
    have b5 : Below w.heap.size w w5 := b4.out.trans (B5.mono s4)
    have s5 := b5.size
    have m5 := mac_text w5 _ (.slice ab nb cb) (sumOf key) b (K5.text (sumOf_lt key) (length_sumOf key)) (hb.out.below b5) (by rw [length_sumOf]; decide) (by rw [eb.out]; omega)
    rw [hlong.out] at m5
    replace A5 := Lib.hid A5
    replace K5 := Lib.hid K5
    replace b5 := Lib.hid b5
    replace B5 := Lib.hid B5
    replace m5 := Lib.hid m5
    refine hK.out _ _ (A5.out) (fun hHeld => ?_)
    clear hK K
    try simp only [Act.put, List.setIfInBounds_toArray, List.set_cons_zero, List.set_cons_succ]
    refine held_take (i := 1) (v := ?_) rfl (by kernel_rfl) (by kernel_rfl) (by kernel_rfl) (fun _ _ _ h => h) (Or.inl ⟨by rfl, ?_⟩) (by assumption) ?_
    rotate_left
    · intro w hSw; (try dsimp only at hSw); go_simp; try with_reducible rfl
    try simp only [Act.put, List.setIfInBounds_toArray, List.set_cons_zero, List.set_cons_succ]
    refine held_take (i := 2) (v := _) rfl (by kernel_rfl) (by kernel_rfl) (by kernel_rfl) (fun _ _ _ h => h) (yieldsIf_row (by rfl) rfl rfl Try.underlying27 iA (fun w' h => h)) (by assumption) ?_
    try simp only [Act.put, List.setIfInBounds_toArray, List.set_cons_zero, List.set_cons_succ]
    refine held_take (i := 3) (v := ?_) rfl (by kernel_rfl) (by kernel_rfl) (by kernel_rfl) (fun _ _ _ h => h) (Or.inl ⟨by rfl, ?_⟩) (by assumption) ?_
    rotate_left
    · intro w hSw; (try dsimp only at hSw); go_simp; try with_reducible rfl
    try simp only [Act.put, List.setIfInBounds_toArray, List.set_cons_zero, List.set_cons_succ]
    refine held_take (i := 4) (v := ?_) rfl (by kernel_rfl) (by kernel_rfl) (by kernel_rfl) (fun _ _ _ h => h) (Or.inl ⟨by rfl, ?_⟩) (by assumption) ?_
    rotate_left
    · intro w hSw; (try dsimp only at hSw); go_simp; try with_reducible rfl
    try simp only [Act.put, List.setIfInBounds_toArray, List.set_cons_zero, List.set_cons_succ]
    refine held_ready (i := 5) rfl (by kernel_rfl) (fun K hK => ?_)
    go_simp
    refine m5.out.mono ?_
    rintro e w6 ⟨rfl, B6⟩
    have A6 : RowB w6 w1.heap.size 27 A := A5.out.other (B6.block _ A5.out.lt)
    have b6 : Below w.heap.size w w6 := b5.out.trans (B6.mono s5)
    replace A6 := Lib.hid A6
    replace b6 := Lib.hid b6
    replace B6 := Lib.hid B6
    refine hK.out _ _ (A6.out) (fun hHeld => ?_)
    clear hK K
    try simp only [Act.put, List.setIfInBounds_toArray, List.set_cons_zero, List.set_cons_succ]
    refine held_take (i := 6) (v := ?_) rfl (by kernel_rfl) (by kernel_rfl) (by kernel_rfl) (fun _ _ _ h => h) (Or.inl ⟨by rfl, ?_⟩) (by assumption) ?_
    rotate_left
    · intro w hSw; (try dsimp only at hSw); go_simp; try with_reducible rfl
    try simp only [Act.put, List.setIfInBounds_toArray, List.set_cons_zero, List.set_cons_succ]
    refine held_take (i := 7) (v := ?_) rfl (by kernel_rfl) (by kernel_rfl) (by kernel_rfl) (fun _ _ _ h => h) (Or.inl ⟨by rfl, ?_⟩) (by assumption) ?_
    rotate_left
    · intro w hSw; (try dsimp only at hSw); go_simp; try with_reducible rfl
    try simp only [Act.put, List.setIfInBounds_toArray, List.set_cons_zero, List.set_cons_succ]
    refine held_take (i := 8) (v := ?_) rfl (by kernel_rfl) (by kernel_rfl) (by kernel_rfl) (fun _ _ _ h => h) (Or.inl ⟨by rfl, ?_⟩) (by assumption) ?_
    rotate_left
    · intro w hSw; (try dsimp only at hSw); go_simp; try with_reducible rfl
    try simp only [Act.put, List.setIfInBounds_toArray, List.set_cons_zero, List.set_cons_succ]
    refine wpAnyH_done (by kernel_rfl) ?_ _
    go_wp2_with fail
    go_ret
    exact ⟨rfl, b6.out⟩
  · go_enter Try.func7, Try.ntmps7
    go_wp2_with fail
    refine mc.out.mono ?_
    rintro e w1 ⟨rfl, B1⟩
    have s1 := B1.size
    replace B1 := Lib.hid B1
    clear mc
    go_wp2_with (first
      | (refine wpList_store_n (by rfl) 27 (.tmp 7) (.tmp 30) rfl A rfl rfl iA (by rw [lA']; rfl) ?_; intro w2 R2 B2
         have b2 : Below w.heap.size w w2 := B1.out.trans (B2.out.mono s1)
         have s2 := b2.size
         have lr2 := R2.out.lt
         have k2 := (hk.out.below b2).alloc (.cells #[] 5)
         have le : ([] : List Nat).length + key.length ≤ 1000000000 := by rw [ek.out]; simp; omega
         replace b2 := Lib.hid b2
         replace k2 := Lib.hid k2
         replace le := Lib.hid le)
      | (at_builtin; refine wpList_append_s (by rfl) (.tmp 44) (.tmp 45) rfl w2.heap.size w2 (.slice (some ⟨w2.heap.size, 0, none⟩) 0 0) [] rfl (Own.empty _ (Nat.le_refl _)) ((Below.refl _ _).alloc (Nat.le_refl _) _) (by simp) (.slice ak nk ck) key rfl k2.out le.out ?_; intro v3 w3 O3 B3))
    have R3 : RowB w3 w1.heap.size 27 A := R2.out.other (B3.out.block _ lr2)
    have b3 : Below w.heap.size w w3 := b2.out.trans (B3.out.mono s2)
    have hkl : key.length ≤ 64 := by rw [ek.out]; omega
    have lr3 := R3.lt
    have hw3 : w2.heap.size ≤ w3.heap.size := B3.out.size
    have lr23 : w1.heap.size < w2.heap.size := lr2
    replace R3 := Lib.hid R3
    replace b3 := Lib.hid b3
    go_loopw [9, 10] (fun v i wr => ∃ j : Nat, j ≤ m ∧ key.length + j ≤ 64 ∧ i = .int .i64 j ∧ Own wr w2.heap.size 5 v (u8l (key ++ List.replicate j 0)) ∧ Below w2.heap.size w2 wr) (fun _ i _ => m - (intOf i).toNat)
    case atStart => exact ⟨0, Nat.zero_le _, by omega, rfl, by simpa using O3.out, B3.out⟩
    case round =>
      obtain ⟨j, hj, hj64, rfl, hO, hB⟩ := hrel
      obtain ⟨av, cv, rfl, _, _, _, _, _⟩ := hO.form
      have hL : (u8l (key ++ List.replicate j 0)).length = nk + j := by simp [u8l, ek.out]
      rw [hL] at hO ⊢
      have hsb := hB.size
      by_cases hgo : j < m ∧ nk + j < 64
      · obtain ⟨h1, h2⟩ := hgo
        have e1 : (j : Int) < (m : Int) := by omega
        have e2 : ((nk + j : Nat) : Int) < 64 := by omega
        have es : u8l (key ++ List.replicate (j + 1) 0) = u8l (key ++ List.replicate j 0 ++ [0]) := by rw [List.replicate_succ', List.append_assoc]
        have ll : (key ++ List.replicate j 0).length + 1 ≤ 1000000000 := by simp [ek.out]; omega
        obtain ⟨q, hq⟩ : ∃ q, q = nk + j := ⟨_, rfl⟩
        rw [← hq] at hO e2 ⊢
        replace hO := Lib.hid hO
        replace hB := Lib.hid hB
        replace hL := Lib.hid hL
        replace es := Lib.hid es
        replace ll := Lib.hid ll
        replace hq := Lib.hid hq
        go_wp2_with (first
          | (at_builtin; refine wpList_append_s (by rfl) (.tmp 57) (.tmp 58) rfl w2.heap.size w2 (.slice av q cv) (key ++ List.replicate j 0) rfl (hO.out.alloc _) (hB.out.alloc hsb _) (by simp; omega) (.slice (some ⟨wr.heap.size, 0, none⟩) 1 1) [0] rfl (by exact lit1 (x := 0) (by decide)) ll.out ?_; intro v4 w4 O4 B4))
        go_roundw
        case rel => exact ⟨j + 1, by omega, by have := hq.out; have := ek.out; omega, by go_num, by rw [es.out]; exact O4.out, B4.out⟩
        case measure => simp [intOf]; omega
      · have hz := macs_zeros key b j hj64
        rw [← hA.out] at hz
        have hsm : ∀ x ∈ key ++ List.replicate j 0, x < 256 := fun x hx => by
          rcases List.mem_append.1 hx with h | h
          · exact hk.out.small x h
          · rw [(List.mem_replicate.1 h).2]; decide
        have tv := (hO.text hsm).below (Below.refl wr.heap.size wr).drew
        have Ax : RowB wr.drew w1.heap.size 27 A := RowB.other (R2.out) (hB.block _ lr23)
        have bx : Below w.heap.size w wr.drew := (b2.out.trans (hB.mono s2)).drew
        have hx : (¬ (j : Int) < (m : Int)) ∨ ((j : Int) < (m : Int) ∧ ¬ (((nk + j : Nat) : Int) < 64)) := by omega
        have sx := bx.size
        have llx : (key ++ List.replicate j 0).length < 1000000 := by simp [ek.out]; omega
        obtain ⟨q, hq⟩ : ∃ q, q = nk + j := ⟨_, rfl⟩
        rw [← hq] at hO tv hx ⊢
        replace hO := Lib.hid hO
        replace hB := Lib.hid hB
        replace hL := Lib.hid hL
        replace hz := Lib.hid hz
        replace tv := Lib.hid tv
        replace Ax := Lib.hid Ax
        replace bx := Lib.hid bx
        replace hgo := Lib.hid hgo
        replace hsm := Lib.hid hsm
        replace llx := Lib.hid llx
        replace hq := Lib.hid hq
        rcases hx with e1 | ⟨e1, e2⟩
        all_goals
          go_wp2_with fail
          refine wp_region_held_drew (S := (fun w' => RowB w' w1.heap.size 27 A)) (by kernel_rfl) (Ax.out) (fun hHeld => ?_)
          refine held_ready (i := 0) rfl (by kernel_rfl) (fun K hK => ?_)
          go_simp
          refine (alive03 _).mono ?_
          rintro e w5 ⟨rfl, B5⟩
          have A5 : RowB w5 w1.heap.size 27 A := Ax.out.other (B5.block _ Ax.out.lt)
          have b5 : Below w.heap.size w w5 := bx.out.trans (B5.mono sx)
          have s5 := b5.size
          have m5 := mac_text w5 (.slice av q cv) (.slice ab nb cb) _ b (tv.out.below B5) (hb.out.below b5) llx.out (by rw [eb.out]; omega)
          rw [hz.out] at m5
          replace A5 := Lib.hid A5
          replace b5 := Lib.hid b5
          replace B5 := Lib.hid B5
          replace m5 := Lib.hid m5
          refine hK.out _ _ (A5.out) (fun hHeld => ?_)
          clear hK K
          try simp only [Act.put, List.setIfInBounds_toArray, List.set_cons_zero, List.set_cons_succ]
          refine held_take (i := 1) (v := ?_) rfl (by kernel_rfl) (by kernel_rfl) (by kernel_rfl) (fun _ _ _ h => h) (Or.inl ⟨by rfl, ?_⟩) (by assumption) ?_
          rotate_left
          · intro w hSw; (try dsimp only at hSw); go_simp; try with_reducible rfl
          try simp only [Act.put, List.setIfInBounds_toArray, List.set_cons_zero, List.set_cons_succ]
          refine held_take (i := 2) (v := _) rfl (by kernel_rfl) (by kernel_rfl) (by kernel_rfl) (fun _ _ _ h => h) (yieldsIf_row (by rfl) rfl rfl Try.underlying27 iA (fun w' h => h)) (by assumption) ?_
          try simp only [Act.put, List.setIfInBounds_toArray, List.set_cons_zero, List.set_cons_succ]
          refine held_take (i := 3) (v := ?_) rfl (by kernel_rfl) (by kernel_rfl) (by kernel_rfl) (fun _ _ _ h => h) (Or.inl ⟨by rfl, ?_⟩) (by assumption) ?_
          rotate_left
          · intro w hSw; (try dsimp only at hSw); go_simp; try with_reducible rfl
          try simp only [Act.put, List.setIfInBounds_toArray, List.set_cons_zero, List.set_cons_succ]
          refine held_take (i := 4) (v := ?_) rfl (by kernel_rfl) (by kernel_rfl) (by kernel_rfl) (fun _ _ _ h => h) (Or.inl ⟨by rfl, ?_⟩) (by assumption) ?_
          rotate_left
          · intro w hSw; (try dsimp only at hSw); go_simp; try with_reducible rfl
          try simp only [Act.put, List.setIfInBounds_toArray, List.set_cons_zero, List.set_cons_succ]
          refine held_ready (i := 5) rfl (by kernel_rfl) (fun K hK => ?_)
          go_simp
          refine m5.out.mono ?_
          rintro e w6 ⟨rfl, B6⟩
          have A6 : RowB w6 w1.heap.size 27 A := A5.out.other (B6.block _ A5.out.lt)
          have b6 : Below w.heap.size w w6 := b5.out.trans (B6.mono s5)
          replace A6 := Lib.hid A6
          replace b6 := Lib.hid b6
          replace B6 := Lib.hid B6
          refine hK.out _ _ (A6.out) (fun hHeld => ?_)
          clear hK K
          try simp only [Act.put, List.setIfInBounds_toArray, List.set_cons_zero, List.set_cons_succ]
          refine held_take (i := 6) (v := ?_) rfl (by kernel_rfl) (by kernel_rfl) (by kernel_rfl) (fun _ _ _ h => h) (Or.inl ⟨by rfl, ?_⟩) (by assumption) ?_
          rotate_left
          · intro w hSw; (try dsimp only at hSw); go_simp; try with_reducible rfl
          try simp only [Act.put, List.setIfInBounds_toArray, List.set_cons_zero, List.set_cons_succ]
          refine held_take (i := 7) (v := ?_) rfl (by kernel_rfl) (by kernel_rfl) (by kernel_rfl) (fun _ _ _ h => h) (Or.inl ⟨by rfl, ?_⟩) (by assumption) ?_
          rotate_left
          · intro w hSw; (try dsimp only at hSw); go_simp; try with_reducible rfl
          try simp only [Act.put, List.setIfInBounds_toArray, List.set_cons_zero, List.set_cons_succ]
          refine held_take (i := 8) (v := ?_) rfl (by kernel_rfl) (by kernel_rfl) (by kernel_rfl) (fun _ _ _ h => h) (Or.inl ⟨by rfl, ?_⟩) (by assumption) ?_
          rotate_left
          · intro w hSw; (try dsimp only at hSw); go_simp; try with_reducible rfl
          try simp only [Act.put, List.setIfInBounds_toArray, List.set_cons_zero, List.set_cons_succ]
          refine wpAnyH_done (by kernel_rfl) ?_ _
          go_wp2_with fail
          go_ret
          exact ⟨rfl, b6.out⟩

end Go.Proofs.Ytjbmdeppoobccaa
