/-
  Law HashlogApart: texts of one sum are the same, or the log has a clash. Condition: the texts are not too long.
-/
import Derived.Test.YtjbmdeppoobccaaHashAlive
import Derived.Test.YtjbmdeppoobccaaHashKeepPlain
namespace Go.Proofs.Ytjbmdeppoobccaa
open Go.RowKit Go.Maps

theorem TextsAt.at {w : World} {ao : Option Addr} {ls : List (List Nat)} (h : TextsAt w ao ls) {k : Nat} (hk : k < ls.length) : ∃ ob oo ai ci, ao = some ⟨ob, oo, none⟩ ∧ w.cell? ⟨ob, oo + k, none⟩ = some (.slice ai (ls.getD k []).length ci) ∧ TextAt w (.slice ai (ls.getD k []).length ci) (ls.getD k []) := by
  obtain ⟨ob, oo, e, ai, ci, h1, h2, h3, h4⟩ := h k hk
  exact ⟨ob, oo, ai, ci, e, h1, ⟨ai, ci, rfl, h2, h4, h3⟩⟩
/-- A log at work in a law: where it lies, and what the arguments' blocks are. -/
structure LogW (w wr : World) (F : Nat → Prop) (b : Nat) (T : List (List Nat)) : Prop where
  log : LogAt wr F b T
  inF : ∀ k, F k → w.heap.size ≤ k ∧ k < wr.heap.size
  low : Below w.heap.size w wr
theorem LogW.below {w wr w' : World} {F : Nat → Prop} {b : Nat} {T : List (List Nat)} (h : LogW w wr F b T) (hB : Below wr.heap.size wr w') : LogW w w' F b T :=
  ⟨h.log.below hB, fun k hk => ⟨(h.inF k hk).1, Nat.lt_of_lt_of_le (h.inF k hk).2 hB.size⟩, h.low.trans (hB.mono h.low.size)⟩
theorem LogW.sum {w wr w' : World} {F F' : Nat → Prop} {b : Nat} {T T' : List (List Nat)} (h : LogW w wr F b T) (h1 : LogAt w' F' b T') (h2 : ∀ k, F' k → (F k ∨ wr.heap.size ≤ k) ∧ k < w'.heap.size) (h3 : Upd F wr w') : LogW w w' F' b T' := by
  refine ⟨h1, fun k hk => ⟨?_, (h2 k hk).2⟩, h.low.trans (h3.below (fun k hk hF => by have := (h.inF k hF).1; omega) h.low.size)⟩
  rcases (h2 k hk).1 with h4 | h4
  · exact (h.inF k h4).1
  · exact Nat.le_trans h.low.size h4
theorem LogW.row {w wr w' : World} {F : Nat → Prop} {b g ty : Nat} {T : List (List Nat)} {l : List Nat} (_h : LogW w wr F b T) (hr : RowB wr g ty l) (hg : ¬ F g) (hU : Upd F wr w') : RowB w' g ty l := hr.other (hU.block _ hr.lt hg)
theorem keep_short {ls : List (List Nat)} {k B : Nat} (h : ∀ j, j < k → (ls.getD j []).length ≤ B) : ∀ t ∈ keepTo ls k, t.length ≤ B := fun t ht => by
  obtain ⟨i, hi, rfl⟩ := (mem_keep _ _ _).1 ht
  exact h i hi

/-- What holds of the strings while the law asks. -/
structure TwoT (w : World) (v1 v2 : Value) (p q : List Nat) (B : Nat) : Prop where
  o1 : Own w B 5 v1 (u8l p)
  o2 : Own w B 5 v2 (u8l q)
theorem TwoT.below {w w' : World} {v1 v2 : Value} {p q : List Nat} {B : Nat} (h : TwoT w v1 v2 p q B) (hB : Below w.heap.size w w') : TwoT w' v1 v2 p q B := ⟨h.o1.below hB, h.o2.below hB⟩
theorem TwoT.upd {w w' : World} {v1 v2 : Value} {p q : List Nat} {B : Nat} {F : Nat → Prop} (h : TwoT w v1 v2 p q B) (hU : Upd F w w') (hF : ∀ k, F k → k < B) : TwoT w' v1 v2 p q B :=
  ⟨h.o1.other fun k hk => hU.block k (h.o1.lt k hk).2 (fun hf => by have := (h.o1.lt k hk).1; have := hF k hf; omega),
   h.o2.other fun k hk => hU.block k (h.o2.lt k hk).2 (fun hf => by have := (h.o2.lt k hk).1; have := hF k hf; omega)⟩

structure AskSt (w : World) (g : Nat) (va vb : Value) (ta tb : List Nat) : Prop where
  x : RowB w g 27 (sumOf ta)
  y : RowB w (g + 1) 27 (sumOf tb)
  a : TextAt w va ta
  b : TextAt w vb tb
theorem AskSt.below {w w' : World} {g : Nat} {va vb : Value} {ta tb : List Nat} (h : AskSt w g va vb ta tb) (hB : Below w.heap.size w w') : AskSt w' g va vb ta tb :=
  ⟨h.x.below hB h.x.lt, h.y.below hB h.y.lt, h.a.below hB, h.b.below hB⟩

set_option maxRecDepth 100000 in
set_option maxHeartbeats 4000000 in
theorem hashlogApart_any (w : World) (ao : Option Addr) (cap : Nat) (ls : List (List Nat)) (hc : ls.length ≤ cap) (h : TextsAt w ao ls) (hls : ls.length < 9223372036854775808) (va : Value) (ta : List Nat) (ha : TextAt w va ta) (hla : ta.length < 9223372036854775808) (vb : Value) (tb : List Nat) (hb : TextAt w vb tb) (hlb : tb.length < 9223372036854775808) :
    Calls Try.prog 14 #[.slice ao ls.length cap, va, vb] w fun e w' => e = .returned (.bool true) ∧ Below w.heap.size w w' := by
  obtain ⟨aa, ca, rfl, _⟩ := ha.ex
  obtain ⟨ab, cb, rfl, _⟩ := hb.ex
  obtain ⟨n, en⟩ : ∃ n, n = ls.length := ⟨_, rfl⟩
  obtain ⟨ma, ea⟩ : ∃ m, m = ta.length := ⟨_, rfl⟩
  obtain ⟨mb, eb⟩ : ∃ m, m = tb.length := ⟨_, rfl⟩
  rw [← en] at hc hls ⊢
  rw [← ea] at ha hla ⊢
  rw [← eb] at hb hlb ⊢
  have al := Lib.hid (fun x => alive08 x)
  replace h := Lib.hid h
  replace ha := Lib.hid ha
  replace hb := Lib.hid hb
  replace en := Lib.hid en
  replace ea := Lib.hid ea
  replace eb := Lib.hid eb
  by_cases g : 40 < n ∨ 300 < ma ∨ 300 < mb
  · rcases g with g | g
    · have d : decide ((n : Int) > 40) = true := decide_eq_true (by omega)
      go_enter Try.func14, Try.ntmps14
      go_wp2_with fail
      refine (al.out w).mono ?_
      rintro e w2 ⟨rfl, B2⟩
      go_wp2_with fail
      go_ret
      exact ⟨rfl, B2⟩
    · by_cases g0 : 40 < n
      · have d : decide ((n : Int) > 40) = true := decide_eq_true (by omega)
        go_enter Try.func14, Try.ntmps14
        go_wp2_with fail
        refine (al.out w).mono ?_
        rintro e w2 ⟨rfl, B2⟩
        go_wp2_with fail
        go_ret
        exact ⟨rfl, B2⟩
      · have d : decide ((n : Int) > 40) = false := decide_eq_false (by omega)
        by_cases g1 : 300 < ma
        · have d1 : decide ((ma : Int) > 300) = true := decide_eq_true (by omega)
          go_enter Try.func14, Try.ntmps14
          go_wp2_with fail
          refine (al.out w).mono ?_
          rintro e w2 ⟨rfl, B2⟩
          go_wp2_with fail
          go_ret
          exact ⟨rfl, B2⟩
        · have d1 : decide ((ma : Int) > 300) = false := decide_eq_false (by omega)
          have d2 : decide ((mb : Int) > 300) = true := decide_eq_true (by omega)
          go_enter Try.func14, Try.ntmps14
          go_wp2_with fail
          refine (al.out w).mono ?_
          rintro e w2 ⟨rfl, B2⟩
          go_wp2_with fail
          go_ret
          exact ⟨rfl, B2⟩
  · have d : decide ((n : Int) > 40) = false := decide_eq_false (by omega)
    have d1 : decide ((ma : Int) > 300) = false := decide_eq_false (by omega)
    have d2 : decide ((mb : Int) > 300) = false := decide_eq_false (by omega)
    go_enter Try.func14, Try.ntmps14
    go_wp2_with fail
    refine (lnew_any w).mono ?_
    rintro e w1 ⟨b, rfl, l1, B1⟩
    have L0 : LogW w w1 (fun k => w.heap.size ≤ k ∧ k < w1.heap.size) b (keepTo ls 0) := ⟨l1.tight, fun k hk => hk, B1⟩
    clear l1 B1
    replace L0 := Lib.hid L0
    go_wp2_with fail
    go_loopw [8] (fun i wr => ∃ (k : Nat) (F : Nat → Prop), k ≤ n ∧ i = .int .i64 k ∧ LogW w wr F b (keepTo ls k) ∧ ∀ j, j < k → (ls.getD j []).length ≤ 300) (fun i _ => n - (intOf i).toNat)
    case atStart => exact ⟨0, _, Nat.zero_le _, rfl, L0.out, fun j hj => by omega⟩
    case round =>
      obtain ⟨k, F, hk, rfl, hL, hs⟩ := hrel
      clear L0
      by_cases hlt : k < n
      · obtain ⟨ob, oo, ai, ci, rfl, c1, t1⟩ := h.out.at (k := k) (by rw [← en.out]; exact hlt)
        have c1' := (hL.low.cell (block_lt_of_cell c1)).trans c1
        have t1' := t1.below hL.low
        have lk := length_keep ls k
        obtain ⟨t, et⟩ : ∃ t, t = ls.getD k [] := ⟨_, rfl⟩
        rw [← et] at c1 c1' t1 t1'
        obtain ⟨m, em⟩ : ∃ m, m = t.length := ⟨_, rfl⟩
        by_cases g3 : 300 < m
        · rw [← em] at c1 c1' t1 t1'
          have d3 : decide ((m : Int) > 300) = true := decide_eq_true (by omega)
          replace hL := Lib.hid hL
          replace hs := Lib.hid hs
          replace t1 := Lib.hid t1
          replace t1' := Lib.hid t1'
          replace et := Lib.hid et
          replace em := Lib.hid em
          replace c1 := Lib.hid c1
          replace lk := Lib.hid lk
          go_wp2_with fail
          refine (al.out _).mono ?_
          rintro e w2 ⟨rfl, B2⟩
          have low2 := hL.out.low.trans (B2.mono hL.out.low.size)
          replace low2 := Lib.hid low2
          replace B2 := Lib.hid B2
          go_wp2_with fail
          go_ret
          exact ⟨rfl, low2.out⟩
        · have d3 : decide ((m : Int) > 300) = false := decide_eq_false (by omega)
          have sm := Lib.hid (lsum_st hL.log _ t t1' (by omega) (by omega))
          rw [← em] at c1 c1' t1 t1' sm
          have hs' : ∀ j, j < k + 1 → (ls.getD j []).length ≤ 300 := fun j hj => by
            by_cases e : j = k
            · subst e; rw [← et]; omega
            · exact hs j (by omega)
          replace hL := Lib.hid hL
          replace hs := Lib.hid hs
          replace hs' := Lib.hid hs'
          replace t1 := Lib.hid t1
          replace t1' := Lib.hid t1'
          replace em := Lib.hid em
          replace c1 := Lib.hid c1
          replace lk := Lib.hid lk
          go_wp2_with fail
          refine sm.out.mono ?_
          rintro e w2 ⟨rfl, F', l2, f2, U2⟩
          have L2 := hL.out.sum l2 f2 U2
          have L2' : LogW w w2 F' b (keepTo ls (k + 1)) := by
            show LogW w w2 F' b (addT (keepTo ls k) (ls.getD k []))
            rw [← et]; exact L2
          clear l2 f2 U2 L2
          replace L2' := Lib.hid L2'
          replace et := Lib.hid et
          go_wp2_with fail
          go_roundw
          case rel => exact ⟨k + 1, F', by omega, by go_num, L2'.out, hs'.out⟩
          case measure => simp [intOf]; omega
      · obtain rfl : k = n := by omega
        have lk := length_keep ls k
        have hsh := keep_short hs
        obtain ⟨T, eT⟩ : ∃ T, T = keepTo ls k := ⟨_, rfl⟩
        rw [← eT] at hL lk hsh
        have sa := Lib.hid (lsum_st hL.log (.slice aa ma ca) ta (ha.out.below hL.low) (by rw [← ea.out]; omega) (by omega))
        have isa := infoSum ta
        have zsa := zeroSum ta
        have isb := infoSum tb
        have zsb := zeroSum tb
        replace hL := Lib.hid hL
        replace hs := Lib.hid hs
        replace lk := Lib.hid lk
        replace hsh := Lib.hid hsh
        replace eT := Lib.hid eT
        go_wp2_with fail
        refine sa.out.mono ?_
        rintro e w2 ⟨rfl, F2, l2, f2, U2⟩
        have L2 := hL.out.sum l2 f2 U2
        clear l2 f2 U2 sa
        have lk2 : (addT T ta).length ≤ 41 := by rw [length_addT]; have := lk.out; split <;> omega
        have sb := Lib.hid (lsum_st L2.log (.slice ab mb cb) tb (hb.out.below L2.low) (by rw [← eb.out]; omega) (by omega))
        replace L2 := Lib.hid L2
        replace lk2 := Lib.hid lk2
        go_wp2_with fail
        refine sb.out.mono ?_
        rintro e w3 ⟨rfl, F3, l3, f3, U3⟩
        have L3 := L2.out.sum l3 f3 U3
        clear l3 f3 U3 sb L2
        have z5 : RowB ((w3.alloc (.cells (u8s (List.replicate 32 0)) 27)).alloc (.cells (u8s (List.replicate 32 0)) 27)) w3.heap.size 27 (List.replicate 32 0) := RowB.alloc (show RowB (w3.alloc (.cells (u8s (List.replicate 32 0)) 27)) w3.heap.size 27 (List.replicate 32 0) from heap_alloc_new _ _) _
        have z6 : RowB ((w3.alloc (.cells (u8s (List.replicate 32 0)) 27)).alloc (.cells (u8s (List.replicate 32 0)) 27)) (w3.heap.size + 1) 27 (List.replicate 32 0) := by
          have h := heap_alloc_new (w3.alloc (.cells (u8s (List.replicate 32 0)) 27)) (.cells (u8s (List.replicate 32 0)) 27)
          rw [World.size_alloc] at h
          exact h
        have BA : Below w3.heap.size w3 ((w3.alloc (.cells (u8s (List.replicate 32 0)) 27)).alloc (.cells (u8s (List.replicate 32 0)) 27)) := ((Below.refl _ _).alloc (Nat.le_refl _) _).alloc (by simp) _
        replace z5 := Lib.hid z5
        replace z6 := Lib.hid z6
        replace BA := Lib.hid BA
        replace L3 := Lib.hid L3
        go_wp2_with (first
          | (refine wpList_store_s (by rfl) 27 (.tmp 9) (.tmp 50) rfl w3.heap.size (sumOf ta) rfl rfl 27 _ z5.out isa zsa ?_; intro w4 R4 U4
             have z63 := Lib.hid (RowB.other z6.out (U4.out.block _ z6.out.lt (by omega))))
          | (refine wpList_store_s (by rfl) 27 (.tmp 10) (.tmp 53) rfl (w3.heap.size + 1) (sumOf tb) rfl rfl 27 _ z63.out isb zsb ?_; intro w5 R5 U5))
        have R45 : RowB w5 w3.heap.size 27 (sumOf ta) := RowB.other R4.out (U5.out.block _ R4.out.lt (by omega))
        have B5 : Below w3.heap.size w3 w5 := by
          have h2 : Below w3.heap.size w3 w4 := BA.out.trans (U4.out.below (fun k hk e => by omega) BA.out.size)
          exact h2.trans (U5.out.below (fun k hk e => by omega) h2.size)
        have L5 := L3.out.below B5
        have n5 : ∀ k, F3 k → k < w3.heap.size := fun k hk => (L3.out.inF k hk).2
        have x5 := R5.out
        clear z5 z6 BA z63 R4 R5 U4 U5 B5 L3
        generalize w3.heap.size = g3 at *
        have hsh2 : ∀ t ∈ addT (addT T ta) tb, t.length ≤ 300 := fun t ht => by
          rcases mem_addT.1 ht with ht | rfl
          · rcases mem_addT.1 ht with ht | rfl
            · have := hsh.out t ht; omega
            · rw [← ea.out]; omega
          · rw [← eb.out]; omega
        have lk3 : (addT (addT T ta) tb).length ≤ 42 := by rw [length_addT]; have := lk2.out; split <;> omega
        have mta : ta ∈ addT (addT T ta) tb := mem_addT.2 (.inl (mem_addT.2 (.inr rfl)))
        have mtb : tb ∈ addT (addT T ta) tb := mem_addT.2 (.inr rfl)
        have ck := Lib.hid (lclash_any L5.log (fun t ht => Nat.le_trans (hsh2 t ht) (by decide)))
        obtain ⟨U, eU⟩ : ∃ U, U = addT (addT T ta) tb := ⟨_, rfl⟩
        rw [← eU] at ck L5 hsh2 lk3 mta mtb
        replace L5 := Lib.hid L5
        replace R45 := Lib.hid R45
        replace n5 := Lib.hid n5
        replace x5 := Lib.hid x5
        replace hsh2 := Lib.hid hsh2
        replace lk3 := Lib.hid lk3
        replace mta := Lib.hid mta
        replace mtb := Lib.hid mtb
        replace eU := Lib.hid eU
        refine ck.out.mono ?_
        clear ck
        intro e w6 hck
        cases hq : clashOf U with
        | none =>
          unfold ClashSays at hck
          rw [hq] at hck
          obtain ⟨rfl, B6⟩ := hck
          have L6 := L5.out.below B6
          have Ra := R45.out.below B6 R45.out.lt
          have Rb := x5.out.below B6 x5.out.lt
          have one := clashOf_none hq
          have hsum : (sumOf ta == sumOf tb) = (ta == tb) := by
            rw [Bool.eq_iff_iff, beq_iff_eq, beq_iff_eq]
            exact ⟨fun e => one _ mta.out _ mtb.out e, fun e => by rw [e]⟩
          have q1 := fun (x : World) => run_equal_arr (P := Try.prog) Try.underlying27 Try.underlying5 (by kernel_rfl) (sumOf_lt ta) (sumOf_lt tb) (length_sumOf _) (length_sumOf _) x
          rw [hsum] at q1
          have sd := str_dec ha.out.small hb.out.small
          have sl := str_lst ha.out.small hb.out.small
          have hTa : TextAt w6 (.slice aa ma ca) ta := ha.out.below L6.low
          have hTb : TextAt w6 (.slice ab mb cb) tb := hb.out.below L6.low
          have low6 := L6.low
          generalize (ta == tb) = qq at *
          clear hsum one
          replace hq := Lib.hid hq
          replace L6 := Lib.hid L6
          replace Ra := Lib.hid Ra
          replace Rb := Lib.hid Rb
          replace hTa := Lib.hid hTa
          replace hTb := Lib.hid hTb
          replace low6 := Lib.hid low6
          go_wp2_with fail
          have S5 : ∀ w', AskSt w' g3 (.slice aa ma ca) (.slice ab mb cb) ta tb → w'.heap[g3]? = some (.cells (u8s (sumOf ta)) 27 (0, 0)) := fun w' h => h.x
          have S6 : ∀ w', AskSt w' g3 (.slice aa ma ca) (.slice ab mb cb) ta tb → w'.heap[g3 + 1]? = some (.cells (u8s (sumOf tb)) 27 (0, 0)) := fun w' h => h.y
          have Sa : ∀ w', AskSt w' g3 (.slice aa ma ca) (.slice ab mb cb) ta tb → TextAt w' (.slice aa ma ca) ta := fun w' h => h.a
          have Sb : ∀ w', AskSt w' g3 (.slice aa ma ca) (.slice ab mb cb) ta tb → TextAt w' (.slice ab mb cb) tb := fun w' h => h.b
          have A6 : AskSt w6.drew g3 (.slice aa ma ca) (.slice ab mb cb) ta tb := ⟨Ra.out, Rb.out, hTa.out.drew, hTb.out.drew⟩
          have low7 : Below w.heap.size w w6.drew := low6.out.drew
          replace S5 := Lib.hid S5
          replace S6 := Lib.hid S6
          replace Sa := Lib.hid Sa
          replace Sb := Lib.hid Sb
          replace A6 := Lib.hid A6
          replace low7 := Lib.hid low7
          refine wp_region_held_drew (S := (fun w' => AskSt w' g3 (.slice aa ma ca) (.slice ab mb cb) ta tb)) (by kernel_rfl) (A6.out) (fun hHeld => ?_)
          refine held_ready (i := 0) rfl (by kernel_rfl) (fun K hK => ?_)
          go_simp
          refine (al.out _).mono ?_; rintro e w7 ⟨rfl, B7⟩
          have A7 := A6.out.below B7
          have low8 := low7.out.trans (B7.mono low7.out.size)
          replace B7 := Lib.hid B7
          replace A7 := Lib.hid A7
          replace low8 := Lib.hid low8
          refine hK.out _ _ (A7.out) (fun hHeldN => ?_)
          clear hHeld hK K
          have hHeld := hHeldN
          clear hHeldN
          try simp only [Act.put, List.setIfInBounds_toArray, List.set_cons_zero, List.set_cons_succ]
          refine held_take (i := 1) (v := ?_) rfl (by kernel_rfl) (by kernel_rfl) (by kernel_rfl) (fun _ _ _ h => h) (Or.inl ⟨by rfl, ?_⟩) (by assumption) ?_
          rotate_left
          · intro w hSw; (try dsimp only at hSw); go_simp; try with_reducible rfl
          try simp only [Act.put, List.setIfInBounds_toArray, List.set_cons_zero, List.set_cons_succ]
          refine held_take (i := 2) (v := _) rfl (by kernel_rfl) (by kernel_rfl) (by kernel_rfl) (fun _ _ _ h => h) (yieldsIf_row (by rfl) rfl rfl Try.underlying27 isa S5.out) (by assumption) ?_
          try simp only [Act.put, List.setIfInBounds_toArray, List.set_cons_zero, List.set_cons_succ]
          refine held_take (i := 3) (v := _) rfl (by kernel_rfl) (by kernel_rfl) (by kernel_rfl) (fun _ _ _ h => h) (yieldsIf_row (by rfl) rfl rfl Try.underlying27 isb S6.out) (by assumption) ?_
          try simp only [Act.put, List.setIfInBounds_toArray, List.set_cons_zero, List.set_cons_succ]
          refine held_take (i := 4) (v := ?_) rfl (by kernel_rfl) (by kernel_rfl) (by kernel_rfl) (fun _ _ _ h => h) (Or.inl ⟨by rfl, ?_⟩) (by assumption) ?_
          rotate_left
          · intro w hSw; (try dsimp only at hSw); go_simp; try with_reducible rfl
          try simp only [Act.put, List.setIfInBounds_toArray, List.set_cons_zero, List.set_cons_succ]
          refine held_take (i := 5) (v := ?_) rfl (by kernel_rfl) (by kernel_rfl) (by kernel_rfl) (fun _ _ _ h => h) (Or.inl ⟨by rfl, ?_⟩) (by assumption) ?_
          rotate_left
          · intro w hSw; (try dsimp only at hSw); go_simp; try with_reducible rfl
          try simp only [Act.put, List.setIfInBounds_toArray, List.set_cons_zero, List.set_cons_succ]
          refine held_take (i := 6) (v := _) rfl (by kernel_rfl) (by kernel_rfl) (by kernel_rfl) (fun _ _ _ h => h) (yieldsIf_str (by rfl) rfl rfl (v := .slice aa ma ca) Sa.out) (by assumption) ?_
          try simp only [Act.put, List.setIfInBounds_toArray, List.set_cons_zero, List.set_cons_succ]
          refine held_take (i := 7) (v := ?_) rfl (by kernel_rfl) (by kernel_rfl) (by kernel_rfl) (fun _ _ _ h => h) (Or.inl ⟨by rfl, ?_⟩) (by assumption) ?_
          rotate_left
          · intro w hSw; (try dsimp only at hSw); go_simp; try with_reducible rfl
          try simp only [Act.put, List.setIfInBounds_toArray, List.set_cons_zero, List.set_cons_succ]
          refine held_take (i := 8) (v := _) rfl (by kernel_rfl) (by kernel_rfl) (by kernel_rfl) (fun _ _ _ h => h) (yieldsIf_str (by rfl) rfl rfl (v := .slice ab mb cb) Sb.out) (by assumption) ?_
          try simp only [Act.put, List.setIfInBounds_toArray, List.set_cons_zero, List.set_cons_succ]
          cases qq with
          | true =>
            refine held_take (i := 9) (v := ?_) rfl (by kernel_rfl) (by kernel_rfl) (by kernel_rfl) (fun _ _ _ h => h) (Or.inl ⟨by rfl, ?_⟩) (by assumption) ?_
            rotate_left
            · intro w hSw; (try dsimp only at hSw); go_simp; try with_reducible rfl
            try simp only [Act.put, List.setIfInBounds_toArray, List.set_cons_zero, List.set_cons_succ]
            refine held_take (i := 10) (v := ?_) rfl (by kernel_rfl) (by kernel_rfl) (by kernel_rfl) (fun _ _ _ h => h) (Or.inl ⟨by rfl, ?_⟩) (by assumption) ?_
            rotate_left
            · intro w hSw; (try dsimp only at hSw); go_simp; try with_reducible rfl
            try simp only [Act.put, List.setIfInBounds_toArray, List.set_cons_zero, List.set_cons_succ]
            refine held_take (i := 11) (v := ?_) rfl (by kernel_rfl) (by kernel_rfl) (by kernel_rfl) (fun _ _ _ h => h) (Or.inl ⟨by rfl, ?_⟩) (by assumption) ?_
            rotate_left
            · intro w hSw; (try dsimp only at hSw); go_simp; try with_reducible rfl
            try simp only [Act.put, List.setIfInBounds_toArray, List.set_cons_zero, List.set_cons_succ]
            refine held_take (i := 12) (v := ?_) rfl (by kernel_rfl) (by kernel_rfl) (by kernel_rfl) (fun _ _ _ h => h) (Or.inl ⟨by rfl, ?_⟩) (by assumption) ?_
            rotate_left
            · intro w hSw; (try dsimp only at hSw); go_simp; try with_reducible rfl
            try simp only [Act.put, List.setIfInBounds_toArray, List.set_cons_zero, List.set_cons_succ]
            refine wpAnyH_done (by kernel_rfl) ?_ _
            clear hHeld
            go_wp2_with fail
            go_ret
            exact ⟨rfl, low8.out⟩
          | false =>
            refine held_take (i := 9) (v := ?_) rfl (by kernel_rfl) (by kernel_rfl) (by kernel_rfl) (fun _ _ _ h => h) (Or.inl ⟨by rfl, ?_⟩) (by assumption) ?_
            rotate_left
            · intro w hSw; (try dsimp only at hSw); go_simp; try with_reducible rfl
            try simp only [Act.put, List.setIfInBounds_toArray, List.set_cons_zero, List.set_cons_succ]
            refine held_take (i := 10) (v := ?_) rfl (by kernel_rfl) (by kernel_rfl) (by kernel_rfl) (fun _ _ _ h => h) (Or.inl ⟨by rfl, ?_⟩) (by assumption) ?_
            rotate_left
            · intro w hSw; (try dsimp only at hSw); go_simp; try with_reducible rfl
            try simp only [Act.put, List.setIfInBounds_toArray, List.set_cons_zero, List.set_cons_succ]
            refine held_take (i := 11) (v := ?_) rfl (by kernel_rfl) (by kernel_rfl) (by kernel_rfl) (fun _ _ _ h => h) (Or.inl ⟨by rfl, ?_⟩) (by assumption) ?_
            rotate_left
            · intro w hSw; (try dsimp only at hSw); go_simp; try with_reducible rfl
            try simp only [Act.put, List.setIfInBounds_toArray, List.set_cons_zero, List.set_cons_succ]
            refine held_take (i := 12) (v := ?_) rfl (by kernel_rfl) (by kernel_rfl) (by kernel_rfl) (fun _ _ _ h => h) (Or.inl ⟨by rfl, ?_⟩) (by assumption) ?_
            rotate_left
            · intro w hSw; (try dsimp only at hSw); go_simp; try with_reducible rfl
            try simp only [Act.put, List.setIfInBounds_toArray, List.set_cons_zero, List.set_cons_succ]
            refine wpAnyH_done (by kernel_rfl) ?_ _
            clear hHeld
            go_wp2_with fail
            go_ret
            exact ⟨rfl, low8.out⟩
        | some pq =>
          obtain ⟨p, q⟩ := pq
          unfold ClashSays at hck
          rw [hq] at hck
          obtain ⟨⟨v1, v2, rfl, o1, o2, sp, sq⟩, B6⟩ := hck
          have hnd : U.Nodup := L5.out.log.nodup
          obtain ⟨mp, mq, hpq, hsum⟩ := clashOf_spec hnd hq
          have L6 := L5.out.below B6
          have hF3 : ∀ k, F3 k → k < w5.heap.size := fun k hk => (L5.out.inF k hk).2
          have T6 : TwoT w6 v1 v2 p q w5.heap.size := ⟨o1, o2⟩
          have hlp := hsh2.out p mp
          have hlq := hsh2.out q mq
          have sd := str_dec sp sq
          have sl := str_lst sp sq
          rw [show (p == q) = false from beq_eq_false_iff_ne.2 hpq] at sd sl
          have np : ¬ strOf p = strOf q := of_decide_eq_false sd
          have q1 := fun (x : World) => run_equal_arr (P := Try.prog) Try.underlying27 Try.underlying5 (by kernel_rfl) (sumOf_lt p) (sumOf_lt q) (length_sumOf _) (length_sumOf _) x
          rw [show (sumOf p == sumOf q) = true from beq_iff_eq.2 hsum] at q1
          have hin1 : decide (p ∈ U) = true := decide_eq_true mp
          have hin2 : decide (q ∈ U) = true := decide_eq_true mq
          have eA1 : addT U p = U := addT_in mp
          have eA2 : addT U q = U := addT_in mq
          clear hpq o1 o2 hnd
          replace hq := Lib.hid hq
          replace L6 := Lib.hid L6
          replace B6 := Lib.hid B6
          replace sp := Lib.hid sp
          replace sq := Lib.hid sq
          replace mp := Lib.hid mp
          replace mq := Lib.hid mq
          replace hsum := Lib.hid hsum
          replace hF3 := Lib.hid hF3
          replace T6 := Lib.hid T6
          replace hlp := Lib.hid hlp
          replace hlq := Lib.hid hlq
          replace hin1 := Lib.hid hin1
          replace hin2 := Lib.hid hin2
          replace eA1 := Lib.hid eA1
          replace eA2 := Lib.hid eA2
          go_wp2_with fail
          refine (al.out _).mono ?_; rintro e w7 ⟨rfl, B7⟩
          have T8 := T6.out.below B7
          have L8 := L6.out.below B7
          have Tp := T8.o1.text sp.out
          have Tq := T8.o2.text sq.out
          have rp := run_str Tp
          have rq := run_str Tq
          have hc1 := lhas_st L8.log v1 p Tp (by have := hlp.out; omega) (by have := lk3.out; omega)
          rw [hin1.out] at hc1
          replace B7 := Lib.hid B7
          replace T8 := Lib.hid T8
          replace L8 := Lib.hid L8
          replace Tp := Lib.hid Tp
          replace Tq := Lib.hid Tq
          replace hc1 := Lib.hid hc1
          go_wp2_with fail
          refine hc1.out.mono ?_; rintro e w8 ⟨rfl, B8⟩
          clear hc1 rp rq
          have T9 := T8.out.below B8
          have L9 := L8.out.below B8
          have hc1 := lhas_st L9.log v2 q (T9.o2.text sq.out) (by have := hlq.out; omega) (by have := lk3.out; omega)
          rw [hin2.out] at hc1
          replace B8 := Lib.hid B8
          replace T9 := Lib.hid T9
          replace L9 := Lib.hid L9
          replace hc1 := Lib.hid hc1
          go_wp2_with fail
          refine hc1.out.mono ?_; rintro e w9 ⟨rfl, B9⟩
          clear hc1
          have T10 := T9.out.below B9
          have L10 := L9.out.below B9
          replace B9 := Lib.hid B9
          replace T10 := Lib.hid T10
          replace L10 := Lib.hid L10
          go_wp2_with fail
          refine (lsum_st L10.out.log v1 p (T10.out.o1.text sp.out) (by have := hlp.out; omega) (by have := lk3.out; omega)).mono ?_
          rintro e w10 ⟨rfl, F10, l10, f10, U10⟩
          rw [eA1.out] at l10
          have T11 := T10.out.upd U10 hF3.out
          have L11 := L10.out.sum l10 f10 U10
          clear l10 U10
          replace T11 := Lib.hid T11
          replace L11 := Lib.hid L11
          replace f10 := Lib.hid f10
          go_wp2_with fail
          refine (lsum_st L11.out.log v2 q (T11.out.o2.text sq.out) (by have := hlq.out; omega) (by have := lk3.out; omega)).mono ?_
          rintro e w11 ⟨rfl, F11, l11, f11, U11⟩
          have L12 := L11.out.sum l11 f11 U11
          have low12 := L12.low
          clear l11 U11 f11 L12
          replace low12 := Lib.hid low12
          go_wp2_with fail
          go_ret
          exact ⟨rfl, low12.out⟩
end Go.Proofs.Ytjbmdeppoobccaa
