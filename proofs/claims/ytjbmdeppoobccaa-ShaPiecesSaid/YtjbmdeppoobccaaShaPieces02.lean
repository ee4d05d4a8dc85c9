/-
  Layer 2's law ShaPieces. Condition: none but the texts' reading.
-/
import Derived.Test.YtjbmdeppoobccaaShaSums02
import Derived.Test.YtjbmdeppoobccaaCut
import Derived.Laws.BitsAllLaws
namespace Go.Proofs.Ytjbmdeppoobccaa
open Go.RowKit

theorem write_text (w0 w : World) (b : Nat) (t : List Nat) (c : Nat) (v : Value) (d : List Nat) (H : HashP w b t c) (hd0 : TextAt w0 v d) (hB : Below w0.heap.size w0 w) (hb : w0.heap.size ≤ b) (hc : c + d.length < 1000000000000) :
    Calls Try.prog 23 #[.pointer (some ⟨b, 0, none⟩), v] w fun e w' => e = .returned (.int .i64 0) ∧ HashP w' b (t ++ d) (c + d.length) ∧ Upd (fun i => i = b) w w' := by
  obtain ⟨ao, cap, rfl, h1, h2, h3⟩ := hd0.ex
  refine (write_any w b t c ao d.length cap (byt d) H h1 hc (h3.below hB) (h3.out hb)).mono ?_
  rintro e w' ⟨he, hP, hU⟩
  rw [bytesOf_byt] at hP
  exact ⟨he, hP, hU⟩
theorem take_more (t : List Nat) (a n : Nat) : t.take a ++ (t.drop a).take n = t.take (a + n) := by rw [List.take_add]
theorem u8_low (c : Nat) (hc : c < 256) : bits .and .u8 (c : Int) 1 = ((c % 2 : Nat) : Int) := by
  have h := u8_and_nat c 1 hc (by decide)
  rw [Nat.and_one_is_mod] at h
  exact h
theorem RowB.range {w : World} {b t : Nat} {l : List Nat} (h : RowB w b t l) : w.rangeAt b 0 (u8l l) := by
  intro j v hj
  rw [Nat.zero_add, cell_of_row _ _ _ _ _ _ h, ← hj]
  simp [u8s, u8l]

set_option maxRecDepth 100000 in
set_option maxHeartbeats 2000000 in
theorem shaPieces_any (w : World) (t u : List Nat) (n m : Nat) (ab ac : Option Addr) (cb cc : Nat) (hb : TextAt w (.slice ab n cb) t) (hc : TextAt w (.slice ac m cc) u) (en : t.length = n) (em : u.length = m) (hn : n < 9223372036854775808) (hm : m < 9223372036854775808) :
    Calls Try.prog 5 #[.slice ab n cb, .slice ac m cc] w fun e w' => e = .returned (.bool true) ∧ Below w.heap.size w w' := by
  have al := Lib.hid (fun x => alive02 x)
  have dn : (3000 : Int) < (n : Int) ∨ ¬ (3000 : Int) < (n : Int) := by omega
  replace hb := Lib.hid hb
  replace hc := Lib.hid hc
  replace en := Lib.hid en
  replace em := Lib.hid em
  rcases dn with dn | dn
  · go_enter Try.func5, Try.ntmps5
    go_wp2_with fail
    refine (al.out _).mono ?_
    rintro e w1 ⟨rfl, B1⟩
    go_wp2_with fail
    go_ret
    exact ⟨rfl, B1⟩
  · go_enter Try.func5, Try.ntmps5
    go_wp2_with fail
    refine (new_any _).mono ?_
    rintro e w1 ⟨b, hwb, rfl, hP, hB⟩
    have start : HashP w1 b (t.take 0) (t.take 0).length ∧ Below w.heap.size w w1 := ⟨hP, hB⟩
    replace start := Lib.hid start
    clear hP hB
    go_wp2_with fail
    go_loopw [6, 7] (fun at_ i wr => ∃ k a : Nat, k ≤ m ∧ a ≤ n ∧ at_ = .int .i64 a ∧ i = .int .i64 k ∧ HashP wr b (t.take a) (t.take a).length ∧ Below w.heap.size w wr) (fun _ i _ => m - (intOf i).toNat)
    case atStart => exact ⟨0, 0, Nat.zero_le _, Nat.zero_le _, rfl, rfl, start.out⟩
    case round =>
      obtain ⟨k, a, hk, ha, rfl, rfl, hP, hB⟩ := hrel
      by_cases hgo : k < m ∧ a < n
      · obtain ⟨hk', ha'⟩ := hgo
        have hku : k < u.length := by rw [em.out]; exact hk'
        obtain ⟨acu, cau, ec, g1, g2, g3⟩ := hc.out.ex
        rw [em.out] at ec
        cases ec
        obtain ⟨hb8, ob, oo, rfl, hcell⟩ := g3 k hku
        have ck := (hB.cell (block_lt_of_cell hcell)).trans hcell
        have ckq := Lib.hid hcell
        generalize byt u k = c at *
        obtain ⟨q, hq⟩ : ∃ q, q = if n - a < c then n - a else c := ⟨_, rfl⟩
        have hqn : a + q ≤ n := by rw [hq]; split <;> omega
        have hlow := u8_low c hb8
        have hsl := run_cut_lh (P := Try.prog) (T := 22) (e := 5) Try.underlying22 (by kernel_rfl) ab n cb a (a + q) (by omega) (by
          obtain ⟨_, _, e, g, _, _⟩ := hb.out.ex
          rw [en.out] at e g
          cases e; omega) a ((a : Int) + (q : Int)) rfl (by omega)
        have hpt : TextAt w (.slice (cutA ab cb a) (a + q - a) (cb - a)) ((t.drop a).take (a + q - a)) := by
          have h := hb.out
          rw [← en.out] at h
          exact h.cut (by omega) (by rw [en.out]; omega)
        rw [show a + q - a = q by omega] at hpt hsl
        have hla : (t.take a).length = a := by rw [List.length_take, en.out]; omega
        have hlq : ((t.drop a).take q).length = q := by rw [List.length_take, List.length_drop, en.out]; omega
        have nx : t.take a ++ (t.drop a).take q = t.take (a + q) := take_more t a q
        have hlx : (t.take (a + q)).length = a + q := by rw [List.length_take, en.out]; omega
        have dk : (k : Int) < (m : Int) := by omega
        have da : (a : Int) < (n : Int) := by omega
        have hsx := hB.size
        have wt := write_text w wr b (t.take a) (t.take a).length _ _ hP hpt hB hwb (by rw [hla, hlq]; omega)
        rw [nx, hlq, hla] at wt
        have hq' : ((q : Int) < (c : Int) ∧ (n : Int) - (a : Int) = (q : Int)) ∨ (¬ ((n : Int) - (a : Int) < (q : Int)) ∧ q = c) := by
          rw [hq]; split
          · exact .inl (by omega)
          · exact .inr (by omega)
        have hlow' : (((c % 2 : Nat) : Int) == 1) = true ∨ (((c % 2 : Nat) : Int) == 1) = false := by
          cases (((c % 2 : Nat) : Int) == 1)
          · exact .inr rfl
          · exact .inl rfl
        generalize ((c % 2 : Nat) : Int) = par at hlow hlow'
        replace hq := Lib.hid hq
        replace hpt := Lib.hid hpt
        replace hla := Lib.hid hla
        replace hlq := Lib.hid hlq
        replace nx := Lib.hid nx
        replace hlx := Lib.hid hlx
        replace hP := Lib.hid hP
        replace hB := Lib.hid hB
        replace wt := Lib.hid wt
        replace g3 := Lib.hid g3
        rcases hq' with ⟨hq1, hq2⟩ | ⟨hq1, hq2⟩
        case' inr => subst hq2
        all_goals
          go_wp2_with fail
          refine wt.out.mono ?_
          rintro e w2 ⟨rfl, P2, U2⟩
          have hP2 : HashP w2 b (t.take (a + q)) (t.take (a + q)).length := by rw [hlx.out]; exact P2
          have hB2 : Below w.heap.size w w2 := hB.out.trans (U2.below (fun i hi e => by omega) hsx)
          have hsum := sum_any w2 b _ hP2 (by rw [hlx.out]; omega)
          have hs2 := hB2.size
          have ck2 := (hB2.cell (block_lt_of_cell ckq.out)).trans ckq.out
          replace hP2 := Lib.hid hP2
          replace hB2 := Lib.hid hB2
          replace hsum := Lib.hid hsum
          clear P2 U2 ck
          rcases hlow' with hl | hl
          · go_wp2_with fail
            refine hsum.out.mono ?_
            rintro e w3 ⟨rfl, B3⟩
            have hP3 : HashP w3 b (t.take (a + q)) (t.take (a + q)).length := hP2.out.stay (S := fun _ => False) (Upd.of_below B3) id
            have hB3 : Below w.heap.size w w3 := hB2.out.trans (B3.mono hs2)
            replace hP3 := Lib.hid hP3
            replace hB3 := Lib.hid hB3
            replace B3 := Lib.hid B3
            go_wp2_with fail
            go_roundw
            case rel => exact ⟨k + 1, a + q, by omega, by omega, by go_num, by go_num, hP3.out, hB3.out⟩
            case measure => simp [intOf]; omega
          · go_wp2_with fail
            go_roundw
            case rel => exact ⟨k + 1, a + q, by omega, by omega, by go_num, by go_num, hP2.out, hB2.out⟩
            case measure => simp [intOf]; omega
      · have hx : (¬ (k : Int) < (m : Int)) ∨ ((k : Int) < (m : Int) ∧ ¬ (a : Int) < (n : Int)) := by omega
        have hle : a ≤ t.length := by rw [en.out]; exact ha
        have hsl := run_cut_l (P := Try.prog) (T := 22) (e := 5) Try.underlying22 (by kernel_rfl) ab n cb a ha (a : Int) rfl
        have hpt : TextAt w (.slice (cutA ab cb a) (n - a) (cb - a)) (t.drop a) := by
          have h := hb.out
          rw [← en.out] at h
          rw [← en.out]
          exact h.cutLo hle
        have hsx := hB.size
        have hln : t.length ≤ 3000 := by rw [en.out]; omega
        have wt := write_text w wr b (t.take a) (t.take a).length _ _ hP hpt hB hwb (by simp; omega)
        rw [List.take_append_drop, show (t.take a).length + (t.drop a).length = t.length by simp; omega] at wt
        replace hP := Lib.hid hP
        replace hB := Lib.hid hB
        replace hpt := Lib.hid hpt
        replace wt := Lib.hid wt
        replace hgo := Lib.hid hgo
        rcases hx with d1 | ⟨d1, d2⟩
        all_goals
          go_wp2_with fail
          refine wt.out.mono ?_
          rintro e w2 ⟨rfl, P2, U2⟩
          have hB2 : Below w.heap.size w w2 := hB.out.trans (U2.below (fun i hi e => by omega) hsx)
          have hs2 := hB2.size
          have sm2 := Lib.hid (sum_any w2 b _ P2 (by omega))
          replace P2 := Lib.hid P2
          replace hB2 := Lib.hid hB2
          clear U2
          have i1 := info_sum t
          have o1 := one_s t
          have l1 : (u8s (sumOf t)).size = 32 := size_sumOf _
          go_wp2_with fail
          refine sm2.out.mono ?_
          rintro e w3 ⟨rfl, B3⟩
          have P3 : HashP w3 b t t.length := P2.out.stay (S := fun _ => False) (Upd.of_below B3) id
          have hB3 : Below w.heap.size w w3 := hB2.out.trans (B3.mono hs2)
          have hs3 := hB3.size
          have lb3 := P3.lt
          replace P3 := Lib.hid P3
          replace hB3 := Lib.hid hB3
          replace B3 := Lib.hid B3
          clear hB2 P2 sm2
          go_wp2_with (first
            | (refine wpList_store_row rfl 27 (.tmp 9) (.tmp 74) rfl w3.heap.size (u8s (sumOf t)) rfl rfl 27 (u8s (List.replicate 32 0)) (heap_alloc_new _ _) i1 (by rw [l1]; rfl) o1 ?_
               refine name_world ?_; intro w4 hw4))
          have X4 : RowB w4 w3.heap.size 27 (sumOf t) := by rw [hw4.out]; exact setRow_heap _ _ _ _ _ _ (heap_alloc_new _ _)
          have U4 : Below w3.heap.size w3 w4 := by rw [hw4.out]; exact below_setRow ((Below.refl _ _).alloc (Nat.le_refl _) _) (Nat.le_refl _) _
          have P4 : HashP w4 b t t.length := P3.out.stay (S := fun _ => False) (Upd.of_below U4) id
          have hB4 : Below w.heap.size w w4 := hB3.out.trans (U4.mono hs3)
          have hs4 := hB4.size
          have lx4 := X4.lt
          have sm4 := sum_any w4 b _ P4 (by omega)
          replace X4 := Lib.hid X4
          replace P4 := Lib.hid P4
          replace hB4 := Lib.hid hB4
          replace sm4 := Lib.hid sm4
          clear hw4 U4 hB3 P3 B3
          refine sm4.out.mono ?_
          rintro e w5 ⟨rfl, B5⟩
          have X5 : RowB w5 w3.heap.size 27 (sumOf t) := X4.out.other (B5.block _ lx4)
          have hB5 : Below w.heap.size w w5 := hB4.out.trans (B5.mono hs4)
          have hs5 := hB5.size
          have lx5 := X5.lt
          replace X5 := Lib.hid X5
          replace hB5 := Lib.hid hB5
          clear B5 X4 hB4 sm4 P4
          go_wp2_with (first
            | (refine wpList_store_row rfl 27 (.tmp 11) (.tmp 79) rfl w5.heap.size (u8s (sumOf t)) rfl rfl 27 (u8s (List.replicate 32 0)) (heap_alloc_new _ _) i1 (by rw [l1]; rfl) o1 ?_
               refine name_world ?_; intro w6 hw6))
          have Y6 : RowB w6 w5.heap.size 27 (sumOf t) := by rw [hw6.out]; exact setRow_heap _ _ _ _ _ _ (heap_alloc_new _ _)
          have U6 : Below w5.heap.size w5 w6 := by rw [hw6.out]; exact below_setRow ((Below.refl _ _).alloc (Nat.le_refl _) _) (Nat.le_refl _) _
          have X6 : RowB w6 w3.heap.size 27 (sumOf t) := X5.out.other (U6.block _ lx5)
          have hB6 : Below w.heap.size w w6 := hB5.out.trans (U6.mono hs5)
          clear hw6 U6 hB5 X5
          have q1 := fun (x : World) => run_equal_arr (P := Try.prog) Try.underlying27 Try.underlying5 (by kernel_rfl) (sumOf_lt t) (sumOf_lt t) (length_sumOf _) (length_sumOf _) x
          rw [beq_self_eq_true] at q1
          have hB6' : Below w.heap.size w w6.drew := hB6.drew
          have X6' : Sums2 w6.drew w3.heap.size w5.heap.size t t := ⟨X6, Y6⟩
          have hsm := hB6'.size
          replace hB6' := Lib.hid hB6'
          replace X6' := Lib.hid X6'
          replace X6 := Lib.hid X6
          replace Y6 := Lib.hid Y6
          replace hB6 := Lib.hid hB6
          have S3 : ∀ w', Sums2 w' w3.heap.size w5.heap.size t t → w'.heap[w3.heap.size]? = some (.cells (u8s (sumOf t)) 27 (0, 0)) := fun w' h => h.1
          have S5 : ∀ w', Sums2 w' w3.heap.size w5.heap.size t t → w'.heap[w5.heap.size]? = some (.cells (u8s (sumOf t)) 27 (0, 0)) := fun w' h => h.2
          replace S3 := Lib.hid S3
          replace S5 := Lib.hid S5
          refine wp_region_held_drew (S := (fun w' => Sums2 w' w3.heap.size w5.heap.size t t)) (by kernel_rfl) (X6'.out) (fun hHeld => ?_)
          refine held_ready (i := 0) rfl (by kernel_rfl) (fun K hK => ?_)
          go_simp
          refine (alive02 _).mono ?_; rintro e w7 ⟨rfl, B7⟩
          have X7 := X6'.out.below B7
          have h7 : Below w.heap.size w w7 := hB6'.out.trans (B7.mono hsm)
          have hs7 := h7.size
          replace B7 := Lib.hid B7
          replace X7 := Lib.hid X7
          replace h7 := Lib.hid h7
          refine hK.out _ _ (X7.out) (fun hHeld => ?_)
          clear hK K
          try simp only [Act.put, List.setIfInBounds_toArray, List.set_cons_zero, List.set_cons_succ]
          refine held_take (i := 1) (v := ?_) rfl (by kernel_rfl) (by kernel_rfl) (by kernel_rfl) (fun _ _ _ h => h) (Or.inl ⟨by rfl, ?_⟩) (by assumption) ?_
          rotate_left
          · intro w hSw; (try dsimp only at hSw); go_simp; try with_reducible rfl
          try simp only [Act.put, List.setIfInBounds_toArray, List.set_cons_zero, List.set_cons_succ]
          refine held_take (i := 2) (v := ?_) rfl (by kernel_rfl) (by kernel_rfl) (by kernel_rfl) (fun _ _ _ h => h) (Or.inl ⟨by rfl, ?_⟩) (by assumption) ?_
          rotate_left
          · intro w hSw; (try dsimp only at hSw); go_simp; try with_reducible rfl
          try simp only [Act.put, List.setIfInBounds_toArray, List.set_cons_zero, List.set_cons_succ]
          refine held_take (i := 3) (v := ?_) rfl (by kernel_rfl) (by kernel_rfl) (by kernel_rfl) (fun _ _ _ h => h) (Or.inl ⟨by rfl, ?_⟩) (by assumption) ?_
          rotate_left
          · intro w hSw; (try dsimp only at hSw); go_simp; try with_reducible rfl
          try simp only [Act.put, List.setIfInBounds_toArray, List.set_cons_zero, List.set_cons_succ]
          refine held_take (i := 4) (v := ?_) rfl (by kernel_rfl) (by kernel_rfl) (by kernel_rfl) (fun _ _ _ h => h) (Or.inl ⟨by rfl, ?_⟩) (by assumption) ?_
          rotate_left
          · intro w hSw; (try dsimp only at hSw); go_simp; try with_reducible rfl
          try simp only [Act.put, List.setIfInBounds_toArray, List.set_cons_zero, List.set_cons_succ]
          refine held_take (i := 5) (v := ?_) rfl (by kernel_rfl) (by kernel_rfl) (by kernel_rfl) (fun _ _ _ h => h) (Or.inl ⟨by rfl, ?_⟩) (by assumption) ?_
          rotate_left
          · intro w hSw; (try dsimp only at hSw); go_simp; try with_reducible rfl
          try simp only [Act.put, List.setIfInBounds_toArray, List.set_cons_zero, List.set_cons_succ]
          refine held_take (i := 6) (v := ?_) rfl (by kernel_rfl) (by kernel_rfl) (by kernel_rfl) (fun _ _ _ h => h) (Or.inl ⟨by rfl, ?_⟩) (by assumption) ?_
          rotate_left
          · intro w hSw; (try dsimp only at hSw); go_simp; try with_reducible rfl
          try simp only [Act.put, List.setIfInBounds_toArray, List.set_cons_zero, List.set_cons_succ]
          refine held_take (i := 7) (v := ?_) rfl (by kernel_rfl) (by kernel_rfl) (by kernel_rfl) (fun _ _ _ h => h) (Or.inl ⟨by rfl, ?_⟩) (by assumption) ?_
          rotate_left
          · intro w hSw; (try dsimp only at hSw); go_simp; try with_reducible rfl
          try simp only [Act.put, List.setIfInBounds_toArray, List.set_cons_zero, List.set_cons_succ]
          refine held_take (i := 8) (v := ?_) rfl (by kernel_rfl) (by kernel_rfl) (by kernel_rfl) (fun _ _ _ h => h) (Or.inl ⟨by rfl, ?_⟩) (by assumption) ?_
          rotate_left
          · intro w hSw; (try dsimp only at hSw); go_simp; try with_reducible rfl
          try simp only [Act.put, List.setIfInBounds_toArray, List.set_cons_zero, List.set_cons_succ]
          refine held_take (i := 9) (v := ?_) rfl (by kernel_rfl) (by kernel_rfl) (by kernel_rfl) (fun _ _ _ h => h) (Or.inl ⟨by rfl, ?_⟩) (by assumption) ?_
          rotate_left
          · intro w hSw; (try dsimp only at hSw); go_simp; try with_reducible rfl
          try simp only [Act.put, List.setIfInBounds_toArray, List.set_cons_zero, List.set_cons_succ]
          refine held_take (i := 10) (v := _) rfl (by kernel_rfl) (by kernel_rfl) (by kernel_rfl) (fun _ _ _ h => h) (yieldsIf_row (by rfl) rfl rfl Try.underlying27 i1 S3.out) (by assumption) ?_
          try simp only [Act.put, List.setIfInBounds_toArray, List.set_cons_zero, List.set_cons_succ]
          refine held_take (i := 11) (v := _) rfl (by kernel_rfl) (by kernel_rfl) (by kernel_rfl) (fun _ _ _ h => h) (yieldsIf_row (by rfl) rfl rfl Try.underlying27 i1 S5.out) (by assumption) ?_
          try simp only [Act.put, List.setIfInBounds_toArray, List.set_cons_zero, List.set_cons_succ]
          refine held_take (i := 12) (v := ?_) rfl (by kernel_rfl) (by kernel_rfl) (by kernel_rfl) (fun _ _ _ h => h) (Or.inl ⟨by rfl, ?_⟩) (by assumption) ?_
          rotate_left
          · intro w hSw; (try dsimp only at hSw); go_simp; try with_reducible rfl
          try simp only [Act.put, List.setIfInBounds_toArray, List.set_cons_zero, List.set_cons_succ]
          refine held_take (i := 13) (v := ?_) rfl (by kernel_rfl) (by kernel_rfl) (by kernel_rfl) (fun _ _ _ h => h) (Or.inl ⟨by rfl, ?_⟩) (by assumption) ?_
          rotate_left
          · intro w hSw; (try dsimp only at hSw); go_simp; try with_reducible rfl
          try simp only [Act.put, List.setIfInBounds_toArray, List.set_cons_zero, List.set_cons_succ]
          refine held_take (i := 14) (v := ?_) rfl (by kernel_rfl) (by kernel_rfl) (by kernel_rfl) (fun _ _ _ h => h) (Or.inl ⟨by rfl, ?_⟩) (by assumption) ?_
          rotate_left
          · intro w hSw; (try dsimp only at hSw); go_simp; try with_reducible rfl
          try simp only [Act.put, List.setIfInBounds_toArray, List.set_cons_zero, List.set_cons_succ]
          refine held_take (i := 15) (v := _) rfl (by kernel_rfl) (by kernel_rfl) (by kernel_rfl) (fun _ _ _ h => h) (yieldsIf_row (by rfl) rfl rfl Try.underlying27 i1 S3.out) (by assumption) ?_
          try simp only [Act.put, List.setIfInBounds_toArray, List.set_cons_zero, List.set_cons_succ]
          refine held_take (i := 16) (v := ?_) rfl (by kernel_rfl) (by kernel_rfl) (by kernel_rfl) (fun _ _ _ h => h) (Or.inl ⟨by rfl, ?_⟩) (by assumption) ?_
          rotate_left
          · intro w hSw; (try dsimp only at hSw); go_simp; try with_reducible rfl
          try simp only [Act.put, List.setIfInBounds_toArray, List.set_cons_zero, List.set_cons_succ]
          refine held_ready (i := 17) rfl (by kernel_rfl) (fun K hK => ?_)
          go_simp
          refine (sumf_text _ _ t (hb.out.below h7.out) (by omega)).mono ?_; rintro e w8 ⟨rfl, B8⟩
          have X8 := X7.out.below B8
          have h8 : Below w.heap.size w w8 := h7.out.trans (B8.mono hs7)
          replace B8 := Lib.hid B8
          replace X8 := Lib.hid X8
          replace h8 := Lib.hid h8
          refine hK.out _ _ (X8.out) (fun hHeld => ?_)
          clear hK K
          try simp only [Act.put, List.setIfInBounds_toArray, List.set_cons_zero, List.set_cons_succ]
          refine held_take (i := 18) (v := ?_) rfl (by kernel_rfl) (by kernel_rfl) (by kernel_rfl) (fun _ _ _ h => h) (Or.inl ⟨by rfl, ?_⟩) (by assumption) ?_
          rotate_left
          · intro w hSw; (try dsimp only at hSw); go_simp; try with_reducible rfl
          try simp only [Act.put, List.setIfInBounds_toArray, List.set_cons_zero, List.set_cons_succ]
          refine held_take (i := 19) (v := ?_) rfl (by kernel_rfl) (by kernel_rfl) (by kernel_rfl) (fun _ _ _ h => h) (Or.inl ⟨by rfl, ?_⟩) (by assumption) ?_
          rotate_left
          · intro w hSw; (try dsimp only at hSw); go_simp; try with_reducible rfl
          try simp only [Act.put, List.setIfInBounds_toArray, List.set_cons_zero, List.set_cons_succ]
          refine held_take (i := 20) (v := ?_) rfl (by kernel_rfl) (by kernel_rfl) (by kernel_rfl) (fun _ _ _ h => h) (Or.inl ⟨by rfl, ?_⟩) (by assumption) ?_
          rotate_left
          · intro w hSw; (try dsimp only at hSw); go_simp; try with_reducible rfl
          try simp only [Act.put, List.setIfInBounds_toArray, List.set_cons_zero, List.set_cons_succ]
          refine wpAnyH_done (by kernel_rfl) ?_ _
          go_wp2_with fail
          go_ret
          exact ⟨rfl, h8.out⟩

end Go.Proofs.Ytjbmdeppoobccaa
