/-
  The law AesKeys. Condition: a key of 32 bytes.
-/
import Derived.Test.YtnadgjlmlnhknaaAesBack05
import Derived.Test.YtnadgjlmlnhknaaAesWordsM
namespace Go.Proofs.Ytnadgjlmlnhknaa
open Go.RowKit

theorem run_part4 (l : List Nat) (off : Nat) (w : World) : (part 31 (u8s l) off).run Try.prog w = .ok (.agg (u8s ((l.drop off).take 4))) w := by
  have hs : (sizeOf 31).run Try.prog w = .ok 4 w := by
    cases hq : Try.prog.info? 31 with
    | none => exact absurd hq (by have : ((Try.prog.info? 31).map (·.size)) = some 4 := by kernel_rfl
                                  intro h; rw [h] at this; simp at this)
    | some i =>
      have h4 : i.size = 4 := by
        have : ((Try.prog.info? 31).map (·.size)) = some 4 := by kernel_rfl
        rw [hq] at this; simpa using this
      simp [sizeOf, typeInfo, hq, h4]
  have e : (u8s l).extract off (off + 4) = u8s ((l.drop off).take 4) := by
    simp [u8s, List.extract_toArray, List.map_take, List.map_drop, List.extract]
  simp [part, isAgg, run_underlying Try.underlying31, hs, e]

theorem eqItems_same (l : List Nat) (hs : ∀ x ∈ l, x < 256) (w : World) : ∀ is : List Nat, (∀ i ∈ is, i * 4 + 4 ≤ l.length) → (Op.eqItems 9999 31 4 (u8s l) (u8s l) is).run Try.prog w = .ok true w
  | [], _ => by simp [Op.eqItems]
  | i :: is, h => by
    have hi := h i (by simp)
    have ih := eqItems_same l hs w is (fun j hj => h j (by simp [hj]))
    have hq : (Op.equalIn 9999 31 (.agg (u8s ((l.drop (i * 4)).take 4))) (.agg (u8s ((l.drop (i * 4)).take 4)))).run Try.prog w = .ok true w := by
      have hsz : ∀ w, (sizeOf 5).run Try.prog w = .ok 1 w := fun w => by
        cases hq : Try.prog.info? 5 with
        | none => have := size8u; rw [hq] at this; simp at this
        | some j => have := size8u; rw [hq] at this; simp at this; simp [sizeOf, typeInfo, hq, this]
      have hm : ∀ x ∈ (l.drop (i * 4)).take 4, x < 256 := fun x hx => hs x (List.mem_of_mem_drop (List.mem_of_mem_take hx))
      have hl : ((l.drop (i * 4)).take 4).length = 4 := by simp; omega
      have h0 := run_equalIn_bytes (P := Try.prog) w 9997 31 5 4 Try.underlying31 Try.underlying5 hsz (((l.drop (i * 4)).take 4).map UInt8.ofNat) (((l.drop (i * 4)).take 4).map UInt8.ofNat) (by simpa using hl) (by simpa using hl)
      rw [u8s_cells hm]
      rw [beq_self_eq_true] at h0
      exact h0
    simp only [Op.eqItems, Sem.run_bind, run_part4, Result.andThen_ok, hq]
    simpa using ih

theorem cmp60 (l : List Nat) (hl : l.length = 240) (hs : ∀ x ∈ l, x < 256) (w : World) : (Op.equalIn 10000 32 (.agg (u8s l)) (.agg (u8s l))).run Try.prog w = .ok true w := by
  obtain ⟨i, hi⟩ : ∃ i, Try.prog.info? 31 = some i := by
    cases hq : Try.prog.info? 31 with
    | none => exact absurd hq (by have : ((Try.prog.info? 31).map (·.size)) = some 4 := by kernel_rfl
                                  intro h; rw [h] at this; simp at this)
    | some i => exact ⟨i, rfl⟩
  rw [run_equalIn_array w 9999 (u8s l) (u8s l) Try.underlying32 hi, show Try.prog.cellsOf 31 = 4 by kernel_rfl]
  exact eqItems_same l hs w _ (fun j hj => by have := List.mem_range.1 hj; omega)

theorem words_key (key : Nat → Nat) : ∀ n q, q < 32 → q < 4 * n → byt (wordsTo key n) q = key q
  | 0, q, _, h => by omega
  | n + 1, q, h1, h2 => by
    by_cases h : q < 4 * n
    · rw [byt_words_lo key n h]; exact words_key key n q h1 h
    · rw [show q = 4 * n + (q - 4 * n) by omega, byt_words_hi, nextW_lo key _ (show n < 8 by omega), byt_range4 _ (by omega)]
theorem key_of_words {key : List Nat} (hk : key.length = 32) : tabN 32 (byt (wordsOf (byt key))) = key := by
  apply List.ext_getElem?
  intro i
  by_cases hi : i < 32
  · rw [tabN_get _ hi]
    unfold wordsOf
    rw [words_key _ 60 i hi (by omega)]
    simp [byt, List.getD, hk, hi]
  · rw [List.getElem?_eq_none (by rw [length_tabN]; omega), List.getElem?_eq_none (by omega)]

/-- What the law keeps: the key, its words, the key told again. -/
structure KeySt (w wr : World) (key L m : List Nat) (g h : Nat) : Prop where
  k : RowB wr w.heap.size 23 key
  l : RowB wr g 32 L
  m : RowB wr h 23 m
  far : w.heap.size < g ∧ g < h
  low : Below w.heap.size w wr
theorem KeySt.set {w wr : World} {key L m : List Nat} {g h : Nat} (s : KeySt w wr key L m g h) (i v : Nat) : KeySt w (wr.setCell ⟨h, i, none⟩ (.int .u8 (v : Int))) key L (m.set i v) g h := by
  have hf := s.far
  exact ⟨s.k.other (heap_setCell_other _ _ _ _ (show w.heap.size ≠ h by omega)), s.l.other (heap_setCell_other _ _ _ _ (show g ≠ h by omega)), s.m.set i v, hf, s.low.setCell (p := ⟨h, i, none⟩) (show w.heap.size ≤ h by omega) _⟩
theorem KeySt.below {w wr w' : World} {key L m : List Nat} {g h : Nat} (s : KeySt w wr key L m g h) (hB : Below wr.heap.size wr w') : KeySt w w' key L m g h :=
  ⟨s.k.below hB s.k.lt, s.l.below hB s.l.lt, s.m.below hB s.m.lt, s.far, s.low.trans (hB.mono s.low.size)⟩
theorem KeySt.drew {w wr : World} {key L m : List Nat} {g h : Nat} (s : KeySt w wr key L m g h) : KeySt w wr.drew key L m g h := ⟨s.k, s.l, s.m, s.far, s.low.drew⟩

set_option maxHeartbeats 4000000 in
set_option maxRecDepth 100000 in
theorem akeys_any (w : World) (key : List Nat) (hk : key.length = 32) (hs : ∀ x ∈ key, x < 256) :
    Calls Try.prog 7 #[.agg (u8s key)] w fun e w' => e = .returned (.bool true) ∧ Below w.heap.size w w' := by
  have hW : ∀ i, byt (wordsOf (byt key)) i < 256 := words_lt (byt_small hs) 60
  have eK := key_of_words hk
  obtain ⟨W, eW⟩ : ∃ W, W = byt (wordsOf (byt key)) := ⟨_, rfl⟩
  rw [← eW] at hW eK
  obtain ⟨L, hL⟩ : ∃ L, L = tabN 240 W := ⟨_, rfl⟩
  have lL : L.length = 240 := by rw [hL, length_tabN]
  have sL : ∀ x ∈ L, x < 256 := by
    intro x hx
    rw [hL] at hx
    obtain ⟨i, _, rfl⟩ := List.mem_map.1 hx
    exact hW i
  have q60 := cmp60 L lL sL
  have q23 := fun (x : World) => run_equal_arr (P := Try.prog) Try.underlying23 Try.underlying5 (by kernel_rfl) hs hs hk hk x
  simp only [beq_self_eq_true] at q23
  have i32 := info32 hk
  have i60 := info60 lL
  have z60 := size60 lL
  have r0 : RowB (w.alloc (.cells (u8s key) 23)) w.heap.size 23 key := heap_alloc_new _ _
  have low0 : Below w.heap.size w (w.alloc (.cells (u8s key) 23)) := (Below.refl _ _).alloc (Nat.le_refl _) _
  have cn := Lib.hid (fun wx => new_any wx key hk (byt_small hs))
  rw [← eW] at cn
  replace eW := Lib.hid eW
  replace hW := Lib.hid hW
  replace r0 := Lib.hid r0
  replace low0 := Lib.hid low0
  replace lL := Lib.hid lL
  replace sL := Lib.hid sL
  replace hL := Lib.hid hL
  replace eK := Lib.hid eK
  go_enter Try.func7, Try.ntmps7
  go_wp2_with (refine wpList_load_b (by rfl) 23 (.tmp 1) rfl w.heap.size rfl 23 key r0.out _ Try.underlying23 rfl i32 ?_)
  refine (cn.out _).mono ?_
  rintro e w1 ⟨b, rfl, hb, hC, B1⟩
  have k1 := r0.out.below B1 r0.out.lt
  have low1 := low0.out.trans (B1.mono low0.out.size)
  replace hb := Lib.hid hb
  replace hC := Lib.hid hC
  replace B1 := Lib.hid B1
  replace k1 := Lib.hid k1
  replace low1 := Lib.hid low1
  go_wp2_with fail
  have cw := words_any hC.out
  rw [← hL.out] at cw
  refine cw.mono ?_
  rintro e w2 ⟨rfl, B2⟩
  have k2 := k1.out.below B2 k1.out.lt
  have low2 := low1.out.trans (B2.mono low1.out.size)
  clear cw
  replace B2 := Lib.hid B2
  replace k2 := Lib.hid k2
  replace low2 := Lib.hid low2
  go_wp2_with (refine wpList_store_n (by rfl) 32 (.tmp 4) (.tmp 13) rfl L rfl rfl i60 (by rw [zero60]; exact z60) ?_; intro w3 R3 B3)
  have st0 : KeySt w (w3.alloc (.cells (u8s (List.replicate 32 0)) 23)) key L (tabN 32 (upTo 0 W (fun _ => 0))) w2.heap.size w3.heap.size := by
    have m0 : RowB (w3.alloc (.cells (u8s (List.replicate 32 0)) 23)) w3.heap.size 23 (List.replicate 32 0) := heap_alloc_new _ _
    have l3 := low2.out.trans (B3.out.mono low2.out.size)
    exact ⟨(k2.out.below B3.out k2.out.lt).alloc _, R3.out.alloc _, by rw [tabN_none]; exact m0, ⟨k2.out.lt, R3.out.lt⟩, l3.alloc l3.size _⟩
  clear R3 B3 k2 low2 hb hC k1 low1
  replace st0 := Lib.hid st0
  go_loopw [6] (fun iv wr => ∃ k : Nat, k ≤ 32 ∧ iv = .int .i64 k ∧ KeySt w wr key L (tabN 32 (upTo k W (fun _ => 0))) w2.heap.size w3.heap.size) (fun iv _ => 32 - (intOf iv).toNat)
  case atStart => exact ⟨0, by decide, rfl, st0.out⟩
  case round =>
    clear st0
    obtain ⟨k, hk32, rfl, st⟩ := hrel
    by_cases hlt : k < 32
    · obtain ⟨d, hd⟩ : ∃ d, d = k / 4 := ⟨_, rfl⟩
      obtain ⟨m, hm⟩ : ∃ m, m = k % 4 := ⟨_, rfl⟩
      have f1 : IntKind.i64.wrap ((k : Int) / 4) = (d : Int) := by rw [IntWalk.i64_in _ (by omega)]; omega
      have f3 : ((k : Int)).tmod 4 = (m : Int) := by rw [Int.tmod_eq_emod_of_nonneg (by omega)]; omega
      have f4 : (d : Int) < 60 := by omega
      have f5 : (m : Int) < 4 := by omega
      have ea : d * 4 + m = k := by omega
      have cl : wr.cell? ⟨w2.heap.size, d * 4 + m, none⟩ = some (.int .u8 (W k : Int)) := by
        rw [ea]
        exact st.l.cell (by rw [hL.out]; exact tabN_get W (by omega))
      have c0 := st.m.cell (tabN_get (upTo k W (fun _ => 0)) hlt)
      have fr := st.m.frozen k
      have ns := st.set k (W k)
      rw [tabN_up] at ns
      generalize upTo k W (fun _ => 0) k = old at *
      replace st := Lib.hid st
      replace ns := Lib.hid ns
      replace hd := Lib.hid hd
      replace hm := Lib.hid hm
      replace ea := Lib.hid ea
      go_wp2_with fail
      go_roundw
      case rel => exact ⟨k + 1, by omega, by go_num, ns.out⟩
      case measure => simp [intOf]; omega
    · obtain rfl : k = 32 := by omega
      rw [tabN_all, eK.out] at st
      simp only [show ((32 : Nat) : Int) = 32 from rfl]
      have m5 := st.m
      replace st := Lib.hid st
      go_wp2_with (refine wpList_load_b (by rfl) 23 (.tmp 5) rfl w3.heap.size rfl 23 key m5 _ Try.underlying23 rfl i32 ?_)
      refine (cn.out _).mono ?_
      rintro e w5 ⟨b2, rfl, hb2, hC2, B5⟩
      have s5 := st.out.below B5
      clear m5
      replace hb2 := Lib.hid hb2
      replace hC2 := Lib.hid hC2
      replace B5 := Lib.hid B5
      replace s5 := Lib.hid s5
      go_wp2_with fail
      have ra : RowB w5.drew w.heap.size 23 key := s5.out.k
      have rb : RowB w5.drew w3.heap.size 23 key := s5.out.m
      have rc : RowB w5.drew w2.heap.size 32 L := s5.out.l
      refine wp_region_held_drew (S := (fun w' => RowB w' w.heap.size 23 key ∧ RowB w' w3.heap.size 23 key ∧ RowB w' w2.heap.size 32 L)) (by kernel_rfl) (⟨ra, rb, rc⟩) (fun hHeld => ?_)
      refine held_ready (i := 0) rfl (by kernel_rfl) (fun K hK => ?_)
      go_simp
      refine (alive05 _).mono ?_
      rintro e w6 ⟨rfl, B6⟩
      have ra6 : RowB w6 w.heap.size 23 key := ra.below B6 ra.lt
      have rb6 : RowB w6 w3.heap.size 23 key := rb.below B6 rb.lt
      have rc6 : RowB w6 w2.heap.size 32 L := rc.below B6 rc.lt
      have hC6 : CipherAt w6 b2 W := (hC2.out.stay (w' := w5.drew) (Nat.le_refl _) rfl).below B6 (Nat.le_refl _)
      have low6 : Below w.heap.size w w6 := s5.out.low.drew.trans (B6.mono s5.out.low.size)
      replace B6 := Lib.hid B6
      replace hC6 := Lib.hid hC6
      replace low6 := Lib.hid low6
      refine hK.out _ _ (⟨ra6, rb6, rc6⟩) (fun hHeldN => ?_)
      clear hHeld hK K
      have hHeld := hHeldN
      clear hHeldN
      try simp only [Act.put, List.setIfInBounds_toArray, List.set_cons_zero, List.set_cons_succ]
      refine held_take (i := 1) (v := ?_) rfl (by kernel_rfl) (by kernel_rfl) (by kernel_rfl) (fun _ _ _ h => h) (Or.inl ⟨by rfl, ?_⟩) (by assumption) ?_
      rotate_left
      · intro w hSw; (try dsimp only at hSw); go_simp; try with_reducible rfl
      try simp only [Act.put, List.setIfInBounds_toArray, List.set_cons_zero, List.set_cons_succ]
      refine held_take (i := 2) (v := _) rfl (by kernel_rfl) (by kernel_rfl) (by kernel_rfl) (fun _ _ _ h => h) (yieldsIf_row (by rfl) rfl rfl Try.underlying23 i32 (fun w' h => h.2.1)) (by assumption) ?_
      try simp only [Act.put, List.setIfInBounds_toArray, List.set_cons_zero, List.set_cons_succ]
      refine held_take (i := 3) (v := _) rfl (by kernel_rfl) (by kernel_rfl) (by kernel_rfl) (fun _ _ _ h => h) (yieldsIf_row (by rfl) rfl rfl Try.underlying23 i32 (fun w' h => h.1)) (by assumption) ?_
      try simp only [Act.put, List.setIfInBounds_toArray, List.set_cons_zero, List.set_cons_succ]
      refine held_take (i := 4) (v := ?_) rfl (by kernel_rfl) (by kernel_rfl) (by kernel_rfl) (fun _ _ _ h => h) (Or.inl ⟨by rfl, ?_⟩) (by assumption) ?_
      rotate_left
      · intro w hSw; (try dsimp only at hSw); go_simp; try with_reducible rfl
      try simp only [Act.put, List.setIfInBounds_toArray, List.set_cons_zero, List.set_cons_succ]
      refine held_take (i := 5) (v := ?_) rfl (by kernel_rfl) (by kernel_rfl) (by kernel_rfl) (fun _ _ _ h => h) (Or.inl ⟨by rfl, ?_⟩) (by assumption) ?_
      rotate_left
      · intro w hSw; (try dsimp only at hSw); go_simp; try with_reducible rfl
      try simp only [Act.put, List.setIfInBounds_toArray, List.set_cons_zero, List.set_cons_succ]
      refine held_take (i := 6) (v := ?_) rfl (by kernel_rfl) (by kernel_rfl) (by kernel_rfl) (fun _ _ _ h => h) (Or.inl ⟨by rfl, ?_⟩) (by assumption) ?_
      rotate_left
      · intro w hSw; (try dsimp only at hSw); go_simp; try with_reducible rfl
      try simp only [Act.put, List.setIfInBounds_toArray, List.set_cons_zero, List.set_cons_succ]
      refine held_take (i := 7) (v := ?_) rfl (by kernel_rfl) (by kernel_rfl) (by kernel_rfl) (fun _ _ _ h => h) (Or.inl ⟨by rfl, ?_⟩) (by assumption) ?_
      rotate_left
      · intro w hSw; (try dsimp only at hSw); go_simp; try with_reducible rfl
      try simp only [Act.put, List.setIfInBounds_toArray, List.set_cons_zero, List.set_cons_succ]
      refine held_take (i := 8) (v := ?_) rfl (by kernel_rfl) (by kernel_rfl) (by kernel_rfl) (fun _ _ _ h => h) (Or.inl ⟨by rfl, ?_⟩) (by assumption) ?_
      rotate_left
      · intro w hSw; (try dsimp only at hSw); go_simp; try with_reducible rfl
      try simp only [Act.put, List.setIfInBounds_toArray, List.set_cons_zero, List.set_cons_succ]
      refine held_take (i := 9) (v := ?_) rfl (by kernel_rfl) (by kernel_rfl) (by kernel_rfl) (fun _ _ _ h => h) (Or.inl ⟨by rfl, ?_⟩) (by assumption) ?_
      rotate_left
      · intro w hSw; (try dsimp only at hSw); go_simp; try with_reducible rfl
      try simp only [Act.put, List.setIfInBounds_toArray, List.set_cons_zero, List.set_cons_succ]
      refine held_take (i := 10) (v := ?_) rfl (by kernel_rfl) (by kernel_rfl) (by kernel_rfl) (fun _ _ _ h => h) (Or.inl ⟨by rfl, ?_⟩) (by assumption) ?_
      rotate_left
      · intro w hSw; (try dsimp only at hSw); go_simp; try with_reducible rfl
      try simp only [Act.put, List.setIfInBounds_toArray, List.set_cons_zero, List.set_cons_succ]
      refine held_take (i := 11) (v := ?_) rfl (by kernel_rfl) (by kernel_rfl) (by kernel_rfl) (fun _ _ _ h => h) (Or.inl ⟨by rfl, ?_⟩) (by assumption) ?_
      rotate_left
      · intro w hSw; (try dsimp only at hSw); go_simp; try with_reducible rfl
      try simp only [Act.put, List.setIfInBounds_toArray, List.set_cons_zero, List.set_cons_succ]
      refine held_take (i := 13) (v := _) rfl (by kernel_rfl) (by kernel_rfl) (by kernel_rfl) (fun _ _ _ h => h) (yieldsIf_row (by rfl) rfl rfl Try.underlying32 i60 (fun w' h => h.2.2)) (by assumption) ?_
      try simp only [Act.put, List.setIfInBounds_toArray, List.set_cons_zero, List.set_cons_succ]
      refine held_ready (i := 12) rfl (by kernel_rfl) (fun K hK => ?_)
      go_simp
      have cw := words_any hC6.out
      rw [← hL.out] at cw
      refine cw.mono ?_
      rintro e w7 ⟨rfl, B7⟩
      have ra7 := ra6.below B7 ra6.lt
      have rb7 := rb6.below B7 rb6.lt
      have rc7 := rc6.below B7 rc6.lt
      have low7 := low6.out.trans (B7.mono low6.out.size)
      clear cw
      replace B7 := Lib.hid B7
      replace low7 := Lib.hid low7
      refine hK.out _ _ (⟨ra7, rb7, rc7⟩) (fun hHeldN => ?_)
      clear hHeld hK K
      have hHeld := hHeldN
      clear hHeldN
      try simp only [Act.put, List.setIfInBounds_toArray, List.set_cons_zero, List.set_cons_succ]
      refine held_take (i := 14) (v := ?_) rfl (by kernel_rfl) (by kernel_rfl) (by kernel_rfl) (fun _ _ _ h => h) (Or.inl ⟨by rfl, ?_⟩) (by assumption) ?_
      rotate_left
      · intro w hSw; (try dsimp only at hSw); go_simp; try with_reducible rfl
      try simp only [Act.put, List.setIfInBounds_toArray, List.set_cons_zero, List.set_cons_succ]
      refine held_take (i := 15) (v := ?_) rfl (by kernel_rfl) (by kernel_rfl) (by kernel_rfl) (fun _ _ _ h => h) (Or.inl ⟨by rfl, ?_⟩) (by assumption) ?_
      rotate_left
      · intro w hSw; (try dsimp only at hSw); go_simp; try with_reducible rfl
      try simp only [Act.put, List.setIfInBounds_toArray, List.set_cons_zero, List.set_cons_succ]
      refine held_take (i := 16) (v := ?_) rfl (by kernel_rfl) (by kernel_rfl) (by kernel_rfl) (fun _ _ _ h => h) (Or.inl ⟨by rfl, ?_⟩) (by assumption) ?_
      rotate_left
      · intro w hSw; (try dsimp only at hSw); go_simp; try with_reducible rfl
      try simp only [Act.put, List.setIfInBounds_toArray, List.set_cons_zero, List.set_cons_succ]
      refine wpAnyH_done (by kernel_rfl) ?_ _
      clear hHeld
      go_wp2_with fail
      go_ret
      exact ⟨rfl, low7.out⟩
end Go.Proofs.Ytnadgjlmlnhknaa
