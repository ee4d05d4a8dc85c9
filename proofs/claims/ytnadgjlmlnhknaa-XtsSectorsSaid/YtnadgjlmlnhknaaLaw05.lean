/-
  alive of law 5: the fixed call. No condition.
-/
import Derived.Test.YtnadgjlmlnhknaaAesNew
import Derived.Test.YtnadgjlmlnhknaaAesBack
import Derived.Test.YtnadgjlmlnhknaaAesVec
import Derived.Test.YtnadgjlmlnhknaaArrEq
namespace Go.Proofs.Ytnadgjlmlnhknaa
open Go.RowKit

theorem tab_small {f : Nat → Nat} (h : Bytes16 f) : ∀ x ∈ tab f, x < 256 := fun x hx => by
  obtain ⟨i, hi, rfl⟩ := List.mem_map.1 hx
  exact h i (List.mem_range.1 hi)
theorem tab_eq {f g : Nat → Nat} (h : Same16 f g) : tab f = tab g := tab_ext h
theorem same_tab {f g : Nat → Nat} (h : tab f = tab g) : Same16 f g := fun i hi => by rw [← byt_tab f hi, h, byt_tab g hi]
theorem info32 {l : List Nat} (h : l.length = 32) : (Try.prog.info? 23).map (·.size) = some (u8s l).size := by rw [show (u8s l).size = 32 by simp [u8s, h]]; rfl
theorem cmp16 (f g : Nat → Nat) (hf : Bytes16 f) (hg : Bytes16 g) (x : World) : (Op.equalIn 10000 24 (.agg (u8s (tab f))) (.agg (u8s (tab g)))).run Try.prog x = .ok (tab f == tab g) x :=
  run_equal_arr (P := Try.prog) Try.underlying24 Try.underlying5 (by kernel_rfl) (tab_small hf) (tab_small hg) (length_tab _) (length_tab _) x

/-- What alive keeps while it fills. -/
structure FillSt (w wr : World) (k b : List Nat) : Prop where
  k : RowB wr w.heap.size 23 k
  b : RowB wr (w.heap.size + 1) 24 b
  low : Below w.heap.size w wr
theorem FillSt.setK {w wr : World} {k b : List Nat} (h : FillSt w wr k b) (i v : Nat) : FillSt w (wr.setCell ⟨w.heap.size, i, none⟩ (.int .u8 (v : Int))) (k.set i v) b :=
  ⟨h.k.set i v, h.b.other (heap_setCell_other _ _ _ _ (show w.heap.size + 1 ≠ w.heap.size by omega)), h.low.setCell (p := ⟨w.heap.size, i, none⟩) (Nat.le_refl _) _⟩
theorem FillSt.setB {w wr : World} {k b : List Nat} (h : FillSt w wr k b) (i v : Nat) : FillSt w (wr.setCell ⟨w.heap.size + 1, i, none⟩ (.int .u8 (v : Int))) k (b.set i v) :=
  ⟨h.k.other (heap_setCell_other _ _ _ _ (show w.heap.size ≠ w.heap.size + 1 by omega)), h.b.set i v, h.low.setCell (p := ⟨w.heap.size + 1, i, none⟩) (by simp) _⟩
theorem FillSt.begin (w : World) : FillSt w ((w.alloc (.cells (u8s (List.replicate 32 0)) 23)).alloc (.cells (u8s (List.replicate 16 0)) 24)) (tabN 32 (upTo 0 (fun i => i) (fun _ => 0))) (tabN 16 (upTo 0 (fun i => 17 * i) (fun _ => 0))) := by
  have r0 : RowB (w.alloc (.cells (u8s (List.replicate 32 0)) 23)) w.heap.size 23 (List.replicate 32 0) := heap_alloc_new _ _
  have r1 : RowB ((w.alloc (.cells (u8s (List.replicate 32 0)) 23)).alloc (.cells (u8s (List.replicate 16 0)) 24)) (w.heap.size + 1) 24 (List.replicate 16 0) := by
    rw [show w.heap.size + 1 = (w.alloc (.cells (u8s (List.replicate 32 0)) 23)).heap.size by simp]; exact heap_alloc_new _ _
  rw [tabN_none, tabN_none]
  exact ⟨r0.alloc _, r1, ((Below.refl _ _).alloc (Nat.le_refl _) _).alloc (by simp) _⟩

set_option maxHeartbeats 4000000 in
set_option maxRecDepth 100000 in
theorem alive05 (w : World) : Calls Try.prog 21 #[] w fun e w' => e = .returned (.bool true) ∧ Below w.heap.size w w' := by
  have s0 := FillSt.begin w
  replace s0 := Lib.hid s0
  go_enter Try.func21, Try.ntmps21
  go_wp2_with fail
  go_loopw [3] (fun iv wr => ∃ k : Nat, k ≤ 32 ∧ iv = .int .i64 k ∧ FillSt w wr (tabN 32 (upTo k (fun i => i) (fun _ => 0))) (tabN 16 (upTo 0 (fun i => 17 * i) (fun _ => 0)))) (fun iv _ => 32 - (intOf iv).toNat)
  case atStart => exact ⟨0, by decide, rfl, s0.out⟩
  case round =>
    clear s0
    obtain ⟨k, hk, rfl, st⟩ := hrel
    by_cases hlt : k < 32
    · have f1 : IntKind.u8.wrap (k : Int) = (k : Int) := IntWalk.u8_in _ (by omega)
      have c0 := st.k.cell (tabN_get (upTo k (fun i => i) (fun _ => 0)) hlt)
      have fr := st.k.frozen k
      have ns := st.setK k k
      rw [show (tabN 32 (upTo k (fun i => i) (fun _ => 0))).set k k = tabN 32 (upTo (k + 1) (fun i => i) (fun _ => 0)) from tabN_up (fun i => i) (fun _ => 0)] at ns
      generalize upTo k (fun i => i) (fun _ => 0) k = old at *
      replace st := Lib.hid st
      replace ns := Lib.hid ns
      go_wp2_with fail
      go_roundw
      case rel => exact ⟨k + 1, by omega, by go_num, ns.out⟩
      case measure => simp [intOf]; omega
    · obtain rfl : k = 32 := by omega
      rw [tabN_all] at st
      simp only [show ((32 : Nat) : Int) = 32 from rfl]
      replace st := Lib.hid st
      go_wp2_with fail
      go_loopw [4] (fun iv wr => ∃ k : Nat, k ≤ 16 ∧ iv = .int .i64 k ∧ FillSt w wr (tabN 32 (fun i => i)) (tabN 16 (upTo k (fun i => 17 * i) (fun _ => 0)))) (fun iv _ => 16 - (intOf iv).toNat)
      case atStart => exact ⟨0, by decide, rfl, st.out⟩
      case round =>
        clear st
        obtain ⟨k, hk, rfl, st⟩ := hrel
        by_cases hlt : k < 16
        · have f0 : IntKind.i64.wrap (17 * (k : Int)) = 17 * (k : Int) := IntWalk.i64_in _ (by omega)
          have f1 : IntKind.u8.wrap (17 * (k : Int)) = ((17 * k : Nat) : Int) := by rw [IntWalk.u8_in _ (by omega)]; omega
          have c0 := st.b.cell (tabN_get (upTo k (fun i => 17 * i) (fun _ => 0)) hlt)
          have fr := st.b.frozen k
          have ns := st.setB k (17 * k)
          rw [show (tabN 16 (upTo k (fun i => 17 * i) (fun _ => 0))).set k (17 * k) = tabN 16 (upTo (k + 1) (fun i => 17 * i) (fun _ => 0)) from tabN_up (fun i => 17 * i) (fun _ => 0)] at ns
          generalize upTo k (fun i => 17 * i) (fun _ => 0) k = old at *
          replace st := Lib.hid st
          replace ns := Lib.hid ns
          go_wp2_with fail
          go_roundw
          case rel => exact ⟨k + 1, by omega, by go_num, ns.out⟩
          case measure => simp [intOf]; omega
        · obtain rfl : k = 16 := by omega
          rw [tabN_all] at st
          simp only [show ((16 : Nat) : Int) = 16 from rfl]
          have bk : ∀ i, byt (tabN 32 (fun i => i)) i < 256 := by
            intro i
            by_cases h : i < 32
            · simp [byt, List.getD, tabN, h]; omega
            · simp [byt, List.getD, tabN, h]
          have bx : Bytes16 (fun i => 17 * i) := fun i hi => by show 17 * i < 256; omega
          have eq0 : ∀ q, q < 32 → byt (tabN 32 (fun i => i)) q = q := fun q hq => by simp [byt, List.getD, tabN, hq]
          have va := vec_any (key := byt (tabN 32 (fun i => i))) (x := fun i => 17 * i) eq0 (fun _ _ => rfl)
          have hK := st.k
          have i32 := info32 (l := tabN 32 (fun i => i)) (length_tabN _ _)
          have cn := Lib.hid (new_any wr (tabN 32 (fun i => i)) (length_tabN _ _) bk)
          have hW : ∀ i, byt (wordsOf (byt (tabN 32 (fun i => i)))) i < 256 := words_lt bk 60
          generalize byt (wordsOf (byt (tabN 32 (fun i => i)))) = W at *
          generalize tabN 32 (fun i => i) = key at *
          replace st := Lib.hid st
          replace va := Lib.hid va
          replace hW := Lib.hid hW
          replace bx := Lib.hid bx
          replace bk := Lib.hid bk
          replace eq0 := Lib.hid eq0
          go_wp2_with (refine wpList_load_b (by rfl) 23 (.tmp 1) rfl w.heap.size rfl 23 key hK _ Try.underlying23 rfl i32 ?_)
          refine cn.out.mono ?_
          rintro e w1 ⟨b, rfl, hb, hC, B1⟩
          have s1 : FillSt w w1 key (tab fun i => 17 * i) := ⟨st.out.k.below B1 st.out.k.lt, st.out.b.below B1 st.out.b.lt, st.out.low.trans (B1.mono st.out.low.size)⟩
          have x1 := s1.b
          have hbw : w.heap.size ≤ b := Nat.le_trans st.out.low.size hb
          clear hK cn
          replace s1 := Lib.hid s1
          replace B1 := Lib.hid B1
          replace hC := Lib.hid hC
          replace hb := Lib.hid hb
          replace hbw := Lib.hid hbw
          go_wp2_with (refine wpList_load_b (by rfl) 24 (.tmp 2) rfl (w.heap.size + 1) rfl 24 (tab fun i => 17 * i) x1 _ Try.underlying24 rfl (info16 _) ?_)
          have ct := Lib.hid (turn_any hC.out hW.out (fun i => 17 * i) bx.out)
          refine ct.out.mono ?_
          rintro e w2 ⟨rfl, B2⟩
          have s2 : FillSt w w2 key (tab fun i => 17 * i) := ⟨s1.out.k.below B2 s1.out.k.lt, s1.out.b.below B2 s1.out.b.lt, s1.out.low.trans (B2.mono s1.out.low.size)⟩
          have hC2 : CipherAt w2 b W := hC.out.below B2 (Nat.le_refl _)
          have bT := bytes_turn hW.out bx.out
          have bb := back_turn hW.out bx.out
          have ebk : tab (backF W (turnF W fun i => 17 * i)) = tab (fun i => 17 * i) := tab_eq bb
          obtain ⟨T, hT⟩ : ∃ T, T = turnF W fun i => 17 * i := ⟨_, rfl⟩
          rw [← hT] at bT ebk va ⊢
          clear ct x1 bb
          replace s2 := Lib.hid s2
          replace B2 := Lib.hid B2
          replace hC2 := Lib.hid hC2
          replace bT := Lib.hid bT
          replace ebk := Lib.hid ebk
          replace hT := Lib.hid hT
          go_wp2_with (refine wpList_store_n (by rfl) 24 (.tmp 6) (.tmp 30) rfl (tab T) rfl rfl (info16 _) (by rw [size_tab]; rfl) ?_; intro w3 R3 B3)
          have s3 : FillSt w w3 key (tab fun i => 17 * i) := ⟨s2.out.k.below B3.out s2.out.k.lt, s2.out.b.below B3.out s2.out.b.lt, s2.out.low.trans (B3.out.mono s2.out.low.size)⟩
          have hC3 : CipherAt w3 b W := hC2.out.below B3.out (Nat.le_refl _)
          have t0 : w3.drew.cell? ⟨w2.heap.size, 0, none⟩ = some (.int .u8 142) := by have := R3.out.cell (tab_get T (show 0 < 16 by decide)); rw [va.out.1] at this; exact this
          have t1 : w3.drew.cell? ⟨w2.heap.size, 1, none⟩ = some (.int .u8 162) := by have := R3.out.cell (tab_get T (show 1 < 16 by decide)); rw [va.out.2.1] at this; exact this
          have t2 : w3.drew.cell? ⟨w2.heap.size, 2, none⟩ = some (.int .u8 183) := by have := R3.out.cell (tab_get T (show 2 < 16 by decide)); rw [va.out.2.2.1] at this; exact this
          have t3 : w3.drew.cell? ⟨w2.heap.size, 3, none⟩ = some (.int .u8 202) := by have := R3.out.cell (tab_get T (show 3 < 16 by decide)); rw [va.out.2.2.2] at this; exact this
          have rT : RowB w3.drew w2.heap.size 24 (tab T) := R3.out
          have rX : RowB w3.drew (w.heap.size + 1) 24 (tab fun i => 17 * i) := s3.b
          have cb := back_any (w := w3.drew) (hC3.stay (Nat.le_refl _) rfl) hW.out T bT.out
          have q1 := fun (x : World) => cmp16 (fun i => 17 * i) (fun i => 17 * i) bx.out bx.out x
          rw [ebk.out] at cb
          simp only [beq_self_eq_true] at q1
          have iT := info16 T
          have iX := info16 (fun i => 17 * i)
          generalize (fun i => 17 * i) = X at *
          replace R3 := Lib.hid R3
          replace B3 := Lib.hid B3
          replace s3 := Lib.hid s3
          replace hC3 := Lib.hid hC3
          replace cb := Lib.hid cb
          refine wp_region_held_drew (S := (fun w' => w'.cell? ⟨w2.heap.size, 0, none⟩ = some (Value.int .u8 142) ∧ w'.cell? ⟨w2.heap.size, 1, none⟩ = some (Value.int .u8 162) ∧ w'.cell? ⟨w2.heap.size, 2, none⟩ = some (Value.int .u8 183) ∧ w'.cell? ⟨w2.heap.size, 3, none⟩ = some (Value.int .u8 202) ∧ RowB w' w2.heap.size 24 (tab T) ∧ RowB w' (w.heap.size + 1) 24 (tab X))) (by kernel_rfl) (⟨t0, t1, t2, t3, rT, rX⟩) (fun hHeld => ?_)
          refine held_take (i := 0) (v := ?_) rfl (by kernel_rfl) (by kernel_rfl) (by kernel_rfl) (fun _ _ _ h => h) (Or.inl ⟨by rfl, ?_⟩) (by assumption) ?_
          rotate_left
          · intro w hSw; (try dsimp only at hSw); go_simp; try with_reducible rfl
          try simp only [Act.put, List.setIfInBounds_toArray, List.set_cons_zero, List.set_cons_succ]
          refine held_take (i := 1) (v := ?_) rfl (by kernel_rfl) (by kernel_rfl) (by kernel_rfl) (fun _ _ _ h => h) (Or.inl ⟨by rfl, ?_⟩) (by assumption) ?_
          rotate_left
          · intro w hSw; (try dsimp only at hSw); go_simp; try with_reducible rfl
          try simp only [Act.put, List.setIfInBounds_toArray, List.set_cons_zero, List.set_cons_succ]
          refine held_take (i := 2) (v := ?_) rfl (by kernel_rfl) (by kernel_rfl) (by kernel_rfl) (fun _ _ _ h => h) (Or.inl ⟨by rfl, ?_⟩) (by assumption) ?_
          rotate_left
          · intro w hSw; (try dsimp only at hSw); go_simp; try with_reducible rfl
          try simp only [Act.put, List.setIfInBounds_toArray, List.set_cons_zero, List.set_cons_succ]
          refine held_take (i := 3) (v := ?_) rfl (by kernel_rfl) (by kernel_rfl) (by kernel_rfl) (fun _ _ _ h => h) (Or.inl ⟨by rfl, ?_⟩) (by assumption) ?_
          rotate_left
          · intro w hSw; (try dsimp only at hSw); go_simp; try with_reducible rfl
          try simp only [Act.put, List.setIfInBounds_toArray, List.set_cons_zero, List.set_cons_succ]
          refine held_take (i := 4) (v := ?_) rfl (by kernel_rfl) (by kernel_rfl) (by kernel_rfl) (fun _ _ _ h => h) (Or.inl ⟨by rfl, ?_⟩) (by assumption) ?_
          rotate_left
          · intro w hSw; (try dsimp only at hSw); go_simp; try with_reducible rfl
          try simp only [Act.put, List.setIfInBounds_toArray, List.set_cons_zero, List.set_cons_succ]
          refine held_take (i := 5) (v := ?_) rfl (by kernel_rfl) (by kernel_rfl) (by kernel_rfl) (fun _ _ _ h => h) (Or.inl ⟨by rfl, ?_⟩) (by assumption) ?_
          rotate_left
          · intro w hSw; (try dsimp only at hSw); go_simp; try with_reducible rfl
          try simp only [Act.put, List.setIfInBounds_toArray, List.set_cons_zero, List.set_cons_succ]
          refine held_take (i := 6) (v := ?_) rfl (by kernel_rfl) (by kernel_rfl) (by kernel_rfl) (fun _ _ _ h => h) (Or.inl ⟨by rfl, ?_⟩) (by assumption) ?_
          rotate_left
          · intro w hSw; (try dsimp only at hSw); go_simp; try with_reducible rfl
          try simp only [Act.put, List.setIfInBounds_toArray, List.set_cons_zero, List.set_cons_succ]
          refine held_take (i := 7) (v := ?_) rfl (by kernel_rfl) (by kernel_rfl) (by kernel_rfl) (fun _ _ _ h => h) (Or.inl ⟨by rfl, ?_⟩) (by assumption) ?_
          rotate_left
          · intro w hSw; (try dsimp only at hSw); go_simp; try with_reducible rfl
          try simp only [Act.put, List.setIfInBounds_toArray, List.set_cons_zero, List.set_cons_succ]
          refine held_take (i := 8) (v := ?_) rfl (by kernel_rfl) (by kernel_rfl) (by kernel_rfl) (fun _ _ _ h => h) (Or.inl ⟨by rfl, ?_⟩) (by assumption) ?_
          rotate_left
          · intro w hSw; (try dsimp only at hSw); go_simp; try with_reducible rfl
          try simp only [Act.put, List.setIfInBounds_toArray, List.set_cons_zero, List.set_cons_succ]
          refine held_take (i := 9) (v := ?_) rfl (by kernel_rfl) (by kernel_rfl) (by kernel_rfl) (fun _ _ _ h => h) (Or.inl ⟨by rfl, ?_⟩) (by assumption) ?_
          rotate_left
          · intro w hSw; (try dsimp only at hSw); go_simp; try with_reducible rfl
          try simp only [Act.put, List.setIfInBounds_toArray, List.set_cons_zero, List.set_cons_succ]
          refine held_take (i := 10) (v := ?_) rfl (by kernel_rfl) (by kernel_rfl) (by kernel_rfl) (fun _ _ _ h => h) (Or.inl ⟨by rfl, ?_⟩) (by assumption) ?_
          rotate_left
          · intro w hSw; (try dsimp only at hSw); go_simp; try with_reducible rfl
          try simp only [Act.put, List.setIfInBounds_toArray, List.set_cons_zero, List.set_cons_succ]
          refine held_take (i := 11) (v := ?_) rfl (by kernel_rfl) (by kernel_rfl) (by kernel_rfl) (fun _ _ _ h => h) (Or.inl ⟨by rfl, ?_⟩) (by assumption) ?_
          rotate_left
          · intro w hSw; (try dsimp only at hSw); go_simp; try with_reducible rfl
          try simp only [Act.put, List.setIfInBounds_toArray, List.set_cons_zero, List.set_cons_succ]
          refine held_take (i := 12) (v := ?_) rfl (by kernel_rfl) (by kernel_rfl) (by kernel_rfl) (fun _ _ _ h => h) (Or.inl ⟨by rfl, ?_⟩) (by assumption) ?_
          rotate_left
          · intro w hSw; (try dsimp only at hSw); go_simp; try with_reducible rfl
          try simp only [Act.put, List.setIfInBounds_toArray, List.set_cons_zero, List.set_cons_succ]
          refine held_take (i := 13) (v := ?_) rfl (by kernel_rfl) (by kernel_rfl) (by kernel_rfl) (fun _ _ _ h => h) (Or.inl ⟨by rfl, ?_⟩) (by assumption) ?_
          rotate_left
          · intro w hSw; (try dsimp only at hSw); go_simp; try with_reducible rfl
          try simp only [Act.put, List.setIfInBounds_toArray, List.set_cons_zero, List.set_cons_succ]
          refine held_take (i := 14) (v := ?_) rfl (by kernel_rfl) (by kernel_rfl) (by kernel_rfl) (fun _ _ _ h => h) (Or.inl ⟨by rfl, ?_⟩) (by assumption) ?_
          rotate_left
          · intro w hSw; (try dsimp only at hSw); go_simp; try with_reducible rfl
          try simp only [Act.put, List.setIfInBounds_toArray, List.set_cons_zero, List.set_cons_succ]
          refine held_take (i := 15) (v := ?_) rfl (by kernel_rfl) (by kernel_rfl) (by kernel_rfl) (fun _ _ _ h => h) (Or.inl ⟨by rfl, ?_⟩) (by assumption) ?_
          rotate_left
          · intro w hSw; (try dsimp only at hSw); go_simp; try with_reducible rfl
          try simp only [Act.put, List.setIfInBounds_toArray, List.set_cons_zero, List.set_cons_succ]
          refine held_take (i := 16) (v := ?_) rfl (by kernel_rfl) (by kernel_rfl) (by kernel_rfl) (fun _ _ _ h => h) (Or.inl ⟨by rfl, ?_⟩) (by assumption) ?_
          rotate_left
          · intro w hSw; (try dsimp only at hSw); go_simp; try with_reducible rfl
          try simp only [Act.put, List.setIfInBounds_toArray, List.set_cons_zero, List.set_cons_succ]
          refine held_take (i := 17) (v := ?_) rfl (by kernel_rfl) (by kernel_rfl) (by kernel_rfl) (fun _ _ _ h => h) (Or.inl ⟨by rfl, ?_⟩) (by assumption) ?_
          rotate_left
          · intro w hSw; (try dsimp only at hSw); go_simp; try with_reducible rfl
          try simp only [Act.put, List.setIfInBounds_toArray, List.set_cons_zero, List.set_cons_succ]
          refine held_take (i := 18) (v := ?_) rfl (by kernel_rfl) (by kernel_rfl) (by kernel_rfl) (fun _ _ _ h => h) (Or.inl ⟨by rfl, ?_⟩) (by assumption) ?_
          rotate_left
          · intro w hSw; (try dsimp only at hSw); go_simp; try with_reducible rfl
          try simp only [Act.put, List.setIfInBounds_toArray, List.set_cons_zero, List.set_cons_succ]
          refine held_take (i := 19) (v := ?_) rfl (by kernel_rfl) (by kernel_rfl) (by kernel_rfl) (fun _ _ _ h => h) (Or.inl ⟨by rfl, ?_⟩) (by assumption) ?_
          rotate_left
          · intro w hSw; (try dsimp only at hSw); go_simp; try with_reducible rfl
          try simp only [Act.put, List.setIfInBounds_toArray, List.set_cons_zero, List.set_cons_succ]
          refine held_take (i := 20) (v := _) rfl (by kernel_rfl) (by kernel_rfl) (by kernel_rfl) (fun _ _ _ h => h) (yieldsIf_row (by rfl) rfl rfl Try.underlying24 iT (fun w' h => h.2.2.2.2.1)) (by assumption) ?_
          try simp only [Act.put, List.setIfInBounds_toArray, List.set_cons_zero, List.set_cons_succ]
          refine held_take (i := 22) (v := _) rfl (by kernel_rfl) (by kernel_rfl) (by kernel_rfl) (fun _ _ _ h => h) (yieldsIf_row (by rfl) rfl rfl Try.underlying24 iX (fun w' h => h.2.2.2.2.2)) (by assumption) ?_
          try simp only [Act.put, List.setIfInBounds_toArray, List.set_cons_zero, List.set_cons_succ]
          refine held_ready (i := 21) rfl (by kernel_rfl) (fun K hK => ?_)
          go_simp
          refine cb.out.mono ?_
          rintro e w4 ⟨rfl, B4⟩
          have low4 : Below w.heap.size w w4 := s3.out.low.drew.trans (B4.mono s3.out.low.size)
          have lT := rT.lt
          have lX := rX.lt
          have rT4 := rT.below B4 lT
          have rX4 := rX.below B4 lX
          replace B4 := Lib.hid B4
          replace low4 := Lib.hid low4
          refine hK.out _ _ (⟨rT4.cell (by rw [tab_get T (show 0 < 16 by decide), va.out.1]), rT4.cell (by rw [tab_get T (show 1 < 16 by decide), va.out.2.1]), rT4.cell (by rw [tab_get T (show 2 < 16 by decide), va.out.2.2.1]), rT4.cell (by rw [tab_get T (show 3 < 16 by decide), va.out.2.2.2]), rT4, rX4⟩) (fun hHeldN => ?_)
          clear hHeld hK K
          have hHeld := hHeldN
          clear hHeldN
          try simp only [Act.put, List.setIfInBounds_toArray, List.set_cons_zero, List.set_cons_succ]
          refine held_take (i := 23) (v := ?_) rfl (by kernel_rfl) (by kernel_rfl) (by kernel_rfl) (fun _ _ _ h => h) (Or.inl ⟨by rfl, ?_⟩) (by assumption) ?_
          rotate_left
          · intro w hSw; (try dsimp only at hSw); go_simp; try with_reducible rfl
          try simp only [Act.put, List.setIfInBounds_toArray, List.set_cons_zero, List.set_cons_succ]
          refine held_take (i := 24) (v := ?_) rfl (by kernel_rfl) (by kernel_rfl) (by kernel_rfl) (fun _ _ _ h => h) (Or.inl ⟨by rfl, ?_⟩) (by assumption) ?_
          rotate_left
          · intro w hSw; (try dsimp only at hSw); go_simp; try with_reducible rfl
          try simp only [Act.put, List.setIfInBounds_toArray, List.set_cons_zero, List.set_cons_succ]
          refine held_take (i := 25) (v := ?_) rfl (by kernel_rfl) (by kernel_rfl) (by kernel_rfl) (fun _ _ _ h => h) (Or.inl ⟨by rfl, ?_⟩) (by assumption) ?_
          rotate_left
          · intro w hSw; (try dsimp only at hSw); go_simp; try with_reducible rfl
          try simp only [Act.put, List.setIfInBounds_toArray, List.set_cons_zero, List.set_cons_succ]
          refine wpAnyH_done (by kernel_rfl) ?_ _
          clear hHeld
          go_wp2_with fail
          go_ret
          exact ⟨rfl, low4.out⟩
end Go.Proofs.Ytnadgjlmlnhknaa
