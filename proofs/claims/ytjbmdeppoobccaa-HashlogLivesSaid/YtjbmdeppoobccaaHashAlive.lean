/-
  Layer 8's law: Sum and Has of a log that is none; alive. Conditions: texts not too long.
-/
import Derived.Test.YtjbmdeppoobccaaHashMore
import Derived.Lib.SlBytesConst
namespace Go.Proofs.Ytjbmdeppoobccaa
open Go.RowKit Go.Maps

/-- Sum, as it is mostly asked. -/
theorem lsum_st {w : World} {F : Nat → Prop} {b : Nat} {T : List (List Nat)} (h : LogAt w F b T) (v : Value) (t : List Nat) (ht : TextAt w v t) (hl : t.length < 1000000000) (hT : T.length < 1000000000) :
    Calls Try.prog 36 #[.pointer (some ⟨b, 0, none⟩), v] w fun e w' => e = .returned (.agg (u8s (sumOf t))) ∧ ∃ F', LogAt w' F' b (addT T t) ∧ (∀ k, F' k → (F k ∨ w.heap.size ≤ k) ∧ k < w'.heap.size) ∧ Upd F w w' := by
  obtain ⟨ao, cap, rfl, h1⟩ := ht.ex
  refine (lsum_any h ao t _ cap rfl ht hl hT).mono ?_
  rintro e w' ⟨rfl, h2, h3⟩
  exact ⟨rfl, _, h2.tight, fun k hk => hk, h3⟩
theorem lhas_st {w : World} {F : Nat → Prop} {b : Nat} {T : List (List Nat)} (h : LogAt w F b T) (v : Value) (t : List Nat) (ht : TextAt w v t) (hl : t.length < 1000000000) (hT : T.length < 1000000000) :
    Calls Try.prog 39 #[.pointer (some ⟨b, 0, none⟩), v] w fun e w' => e = .returned (.bool (decide (t ∈ T))) ∧ Below w.heap.size w w' := by
  obtain ⟨ao, cap, rfl, h1⟩ := ht.ex
  exact lhas_any h ao t _ cap rfl ht hl hT

set_option maxRecDepth 100000 in
theorem lhas_not {w : World} {v : Value} (h : LogNot w v) (u : Value) : Calls Try.prog 39 #[v, u] w fun e w' => e = .returned (.bool false) ∧ Below w.heap.size w w' := by
  have h' : LogNot w.drew v := by
    rcases h with h | ⟨b, h, c⟩
    · exact .inl h
    · exact .inr ⟨b, h, c⟩
  have cm := Lib.hid (lmade_not h')
  have B0 : Below w.heap.size w w.drew := (Below.refl _ _).drew
  replace h := Lib.hid h
  replace h' := Lib.hid h'
  replace B0 := Lib.hid B0
  go_enter Try.func39, Try.ntmps39
  go_wp2_with fail
  refine wp_region_held_drew (S := (fun _ => True)) (by kernel_rfl) (trivial) (fun hHeld => ?_)
  refine held_take (i := 0) (v := ?_) rfl (by kernel_rfl) (by kernel_rfl) (by kernel_rfl) (fun _ _ _ h => h) (Or.inl ⟨by rfl, ?_⟩) (by assumption) ?_
  rotate_left
  · intro w hSw; (try dsimp only at hSw); go_simp; try with_reducible rfl
  try simp only [Act.put, List.setIfInBounds_toArray, List.set_cons_zero, List.set_cons_succ]
  refine held_ready (i := 1) rfl (by kernel_rfl) (fun K hK => ?_)
  go_simp
  refine cm.out.mono ?_
  rintro e w2 ⟨rfl, rfl⟩
  refine hK.out _ _ (trivial) (fun hHeldN => ?_)
  clear hHeld hK K
  have hHeld := hHeldN
  clear hHeldN
  try simp only [Act.put, List.setIfInBounds_toArray, List.set_cons_zero, List.set_cons_succ]
  refine held_take (i := 2) (v := ?_) rfl (by kernel_rfl) (by kernel_rfl) (by kernel_rfl) (fun _ _ _ h => h) (Or.inl ⟨by rfl, ?_⟩) (by assumption) ?_
  rotate_left
  · intro w hSw; (try dsimp only at hSw); go_simp; try with_reducible rfl
  try simp only [Act.put, List.setIfInBounds_toArray, List.set_cons_zero, List.set_cons_succ]
  refine held_take (i := 3) (v := _) rfl (by kernel_rfl) (by kernel_rfl) (by kernel_rfl) (fun _ _ _ h => h) (Or.inr ⟨by rfl, rfl⟩) (by assumption) ?_
  try simp only [Act.put, List.setIfInBounds_toArray, List.set_cons_zero, List.set_cons_succ]
  refine held_take (i := 4) (v := _) rfl (by kernel_rfl) (by kernel_rfl) (by kernel_rfl) (fun _ _ _ h => h) (Or.inr ⟨by rfl, rfl⟩) (by assumption) ?_
  try simp only [Act.put, List.setIfInBounds_toArray, List.set_cons_zero, List.set_cons_succ]
  refine held_take (i := 5) (v := _) rfl (by kernel_rfl) (by kernel_rfl) (by kernel_rfl) (fun _ _ _ h => h) (Or.inr ⟨by rfl, rfl⟩) (by assumption) ?_
  try simp only [Act.put, List.setIfInBounds_toArray, List.set_cons_zero, List.set_cons_succ]
  refine held_take (i := 6) (v := _) rfl (by kernel_rfl) (by kernel_rfl) (by kernel_rfl) (fun _ _ _ h => h) (Or.inr ⟨by rfl, rfl⟩) (by assumption) ?_
  try simp only [Act.put, List.setIfInBounds_toArray, List.set_cons_zero, List.set_cons_succ]
  refine held_take (i := 7) (v := _) rfl (by kernel_rfl) (by kernel_rfl) (by kernel_rfl) (fun _ _ _ h => h) (Or.inr ⟨by rfl, rfl⟩) (by assumption) ?_
  try simp only [Act.put, List.setIfInBounds_toArray, List.set_cons_zero, List.set_cons_succ]
  refine held_take (i := 8) (v := _) rfl (by kernel_rfl) (by kernel_rfl) (by kernel_rfl) (fun _ _ _ h => h) (Or.inr ⟨by rfl, rfl⟩) (by assumption) ?_
  try simp only [Act.put, List.setIfInBounds_toArray, List.set_cons_zero, List.set_cons_succ]
  refine held_take (i := 9) (v := _) rfl (by kernel_rfl) (by kernel_rfl) (by kernel_rfl) (fun _ _ _ h => h) (Or.inr ⟨by rfl, rfl⟩) (by assumption) ?_
  try simp only [Act.put, List.setIfInBounds_toArray, List.set_cons_zero, List.set_cons_succ]
  refine held_take (i := 10) (v := _) rfl (by kernel_rfl) (by kernel_rfl) (by kernel_rfl) (fun _ _ _ h => h) (Or.inr ⟨by rfl, rfl⟩) (by assumption) ?_
  try simp only [Act.put, List.setIfInBounds_toArray, List.set_cons_zero, List.set_cons_succ]
  refine held_take (i := 11) (v := _) rfl (by kernel_rfl) (by kernel_rfl) (by kernel_rfl) (fun _ _ _ h => h) (Or.inr ⟨by rfl, rfl⟩) (by assumption) ?_
  try simp only [Act.put, List.setIfInBounds_toArray, List.set_cons_zero, List.set_cons_succ]
  refine held_take (i := 12) (v := ?_) rfl (by kernel_rfl) (by kernel_rfl) (by kernel_rfl) (fun _ _ _ h => h) (Or.inl ⟨by rfl, ?_⟩) (by assumption) ?_
  rotate_left
  · intro w hSw; (try dsimp only at hSw); go_simp; try with_reducible rfl
  try simp only [Act.put, List.setIfInBounds_toArray, List.set_cons_zero, List.set_cons_succ]
  refine held_take (i := 13) (v := ?_) rfl (by kernel_rfl) (by kernel_rfl) (by kernel_rfl) (fun _ _ _ h => h) (Or.inl ⟨by rfl, ?_⟩) (by assumption) ?_
  rotate_left
  · intro w hSw; (try dsimp only at hSw); go_simp; try with_reducible rfl
  try simp only [Act.put, List.setIfInBounds_toArray, List.set_cons_zero, List.set_cons_succ]
  refine wpAnyH_done (by kernel_rfl) ?_ _
  clear hHeld
  go_wp2_with fail
  go_ret
  exact ⟨rfl, B0.out⟩

set_option maxRecDepth 100000 in
theorem lsum_not {w : World} {v : Value} (h : LogNot w v) (u : Value) (t : List Nat) (ht : TextAt w u t) (hl : t.length < 1000000000) : Calls Try.prog 36 #[v, u] w fun e w' => e = .returned (.agg (u8s (sumOf t))) ∧ Below w.heap.size w w' := by
  obtain ⟨ao, cap, rfl, _⟩ := ht.ex
  have B0 : Below w.heap.size w (w.alloc (.cells (u8s (List.replicate 32 0)) 27)) := (Below.refl _ _).alloc (Nat.le_refl _) _
  have z0 : RowB (w.alloc (.cells (u8s (List.replicate 32 0)) 27)) w.heap.size 27 (List.replicate 32 0) := heap_alloc_new _ _
  have is := infoSum t
  have zs := zeroSum t
  have t0 := ht.below B0
  have cs := Lib.hid (sumf_text' rfl t0 hl)
  have nt : ∀ wx, Below w.heap.size w wx → LogNot wx v := fun wx hB => by
    rcases h with h | ⟨b, h, c⟩
    · exact .inl h
    · exact .inr ⟨b, h, (hB.cell (block_lt_of_cell c)).trans c⟩
  replace h := Lib.hid h
  replace B0 := Lib.hid B0
  replace z0 := Lib.hid z0
  replace t0 := Lib.hid t0
  replace nt := Lib.hid nt
  replace ht := Lib.hid ht
  go_enter Try.func36, Try.ntmps36
  go_wp2_with fail
  refine cs.out.mono ?_
  rintro e w1 ⟨rfl, B1⟩
  have low1 := B0.out.trans (B1.mono B0.out.size)
  have z1 := z0.out.below B1 z0.out.lt
  replace B1 := Lib.hid B1
  replace low1 := Lib.hid low1
  replace z1 := Lib.hid z1
  go_wp2_with (refine wpList_store_n (by rfl) 27 (.tmp 5) (.tmp 9) rfl (sumOf t) rfl rfl is zs ?_; intro w2 R2 B2)
  have low2 := low1.out.trans (B2.out.mono low1.out.size)
  have z2 := z1.out.below B2.out z1.out.lt
  have s2 := R2.out
  have w1s2 := z1.out.lt
  clear R2 B2 B1 cs
  generalize w1.heap.size = g at *
  replace low2 := Lib.hid low2
  replace z2 := Lib.hid z2
  replace s2 := Lib.hid s2
  refine (lmade_not (nt.out _ low2.out)).mono ?_
  rintro e w2' ⟨rfl, rfl⟩
  go_wp2_with (first
    | (refine wpList_load_b (by rfl) 27 (.tmp 5) rfl g rfl 27 (sumOf t) s2.out _ Try.underlying27 rfl is ?_)
    | (refine wpList_store_s (by rfl) 27 (.tmp 4) (.tmp 13) rfl w.heap.size (sumOf t) rfl rfl 27 _ z2.out is zs ?_; intro w4 R4 U4))
  refine ret_row rfl rfl w.heap.size 27 _ (0, 0) _ rfl R4.out Try.underlying27 rfl is ⟨rfl, ?_⟩
  exact low2.out.trans (U4.out.below (fun k hk e => by omega) low2.out.size)

/-! ### The fixed calls -/
def tABC : List Nat := [97, 98, 99]
def tB : List Nat := [98]
theorem e_abc : u8s tABC = #[.int .u8 97, .int .u8 98, .int .u8 99] := rfl
theorem e_b : u8s tB = #[.int .u8 98] := rfl
theorem abc_0 : (sumOf tABC)[0]? = some 186 := by decide +kernel
theorem sum_b_ne : ¬ sumOf tABC = sumOf tB := by
  intro e
  have h : ¬ (sumOf tB)[0]? = some 186 := by decide +kernel
  exact h (e ▸ abc_0)
theorem keep_abc : addT (addT (addT [] tABC) tB) tABC = [tABC, tB] := by decide
theorem clash_two {a b : List Nat} (h : ¬ sumOf a = sumOf b) : clashOf [a, b] = none := by
  have e0 : clashOf [a] = none := by
    rw [show [a] = [] ++ [a] from rfl, clashOf_snoc]
    rfl
  have e : bucket [a] (sumOf b) = [] := List.eq_nil_iff_forall_not_mem.2 fun t ht => by
    obtain ⟨h1, h2⟩ := mem_bucket.1 ht
    rw [List.mem_singleton.1 h1] at h2
    exact h h2
  rw [show [a, b] = [a] ++ [b] from rfl, clashOf_snoc, e0, e]
theorem clash_abc : clashOf [tABC, tB] = none := clash_two sum_b_ne
/-- The bytes of a literal. -/
theorem lit_text {w : World} (t : List Nat) (hs : ∀ x ∈ t, x < 256) (n : Nat) (hn : t.length = n) (ty : TypeId) (fr : Nat × Nat) : TextAt (w.alloc (.cells (u8s t) ty fr)) (.slice (some ⟨w.heap.size, 0, none⟩) n n) t := by
  subst hn
  refine ⟨some ⟨w.heap.size, 0, none⟩, t.length, rfl, Nat.le_refl _, fun e => by simp at e, fun i hi => ?_⟩
  refine ⟨byt_lt hs i, w.heap.size, 0, rfl, ?_⟩
  rw [Nat.zero_add, cell_of_row _ _ _ _ _ _ (heap_alloc_new _ _)]
  simp [u8s, byt, List.getD, hi]

set_option maxRecDepth 100000 in
set_option maxHeartbeats 4000000 in
theorem alive08 (w : World) : Calls Try.prog 34 #[] w fun e w' => e = .returned (.bool true) ∧ Below w.heap.size w w' := by
  have hcv : ∀ (x : World) (C : Array Value) (n c : Nat), (convert 22 22 (.slice (some ⟨x.heap.size, 0, none⟩) n c)).run Try.prog (x.alloc (.cells C 5)) = .ok (.slice (some ⟨x.heap.size, 0, none⟩) n c) (x.alloc (.cells C 5 (C.size, C.size + 1))) :=
    fun x C n c => Lib.run_convert_bytes_const x 22 5 C n c Try.underlying22 Try.underlying5
  go_enter Try.func34, Try.ntmps34
  go_wp2_with fail
  refine (lnew_any w).mono ?_
  rintro e w1 ⟨b, rfl, l1, B1⟩
  have l1' := l1.tight
  have ta : TextAt (w1.alloc (.cells (u8s tABC) 5 (3, 4))) (.slice (some ⟨w1.heap.size, 0, none⟩) 3 3) tABC := lit_text tABC (by decide) 3 rfl _ _
  have Ba : Below w1.heap.size w1 (w1.alloc (.cells (u8s tABC) 5 (3, 4))) := (Below.refl _ _).alloc (Nat.le_refl _) _
  have ca := Lib.hid (lsum_st (l1'.below Ba) _ _ ta (by decide) (by decide))
  have low1 := B1.trans (Ba.mono B1.size)
  rw [e_abc] at ca
  replace l1 := Lib.hid l1
  replace l1' := Lib.hid l1'
  replace ta := Lib.hid ta
  replace Ba := Lib.hid Ba
  replace B1 := Lib.hid B1
  replace low1 := Lib.hid low1
  go_wp2_with fail
  refine Calls.mono ca.out ?_
  clear ca
  rintro e w2 ⟨rfl, F2, l2, f2, U2⟩
  have low2 : Below w.heap.size w w2 := low1.out.trans (U2.below (fun k hk hF => by have := hF.1; omega) low1.out.size)
  have g2 : ∀ k, F2 k → w.heap.size ≤ k ∧ k < w2.heap.size := fun k hk => ⟨by
    rcases (f2 k hk).1 with h | h
    · exact h.1
    · exact Nat.le_trans low1.out.size h, (f2 k hk).2⟩
  clear f2 U2 l1 l1' ta Ba B1 low1
  have is := infoSum tABC
  have zs := zeroSum tABC
  replace low2 := Lib.hid low2
  replace g2 := Lib.hid g2
  replace l2 := Lib.hid l2
  go_wp2_with (refine wpList_store_n (by rfl) 27 (.tmp 2) (.tmp 11) rfl (sumOf tABC) rfl rfl is zs ?_; intro w3 R3 B3)
  have l3 := l2.out.below B3.out
  have low3 := low2.out.trans (B3.out.mono low2.out.size)
  have tb : TextAt (w3.alloc (.cells (u8s tB) 5 (1, 2))) (.slice (some ⟨w3.heap.size, 0, none⟩) 1 1) tB := lit_text tB (by decide) 1 rfl _ _
  have Bb : Below w3.heap.size w3 (w3.alloc (.cells (u8s tB) 5 (1, 2))) := (Below.refl _ _).alloc (Nat.le_refl _) _
  have cb := Lib.hid (lsum_st (l3.below Bb) _ _ tb (by decide) (by decide))
  have low3b := low3.trans (Bb.mono low3.size)
  have R3b : RowB (w3.alloc (.cells (u8s tB) 5 (1, 2))) w2.heap.size 27 (sumOf tABC) := R3.out.below Bb R3.out.lt
  have n2 : ¬ F2 w2.heap.size := fun h => by have := (g2.out _ h).2; omega
  have s2 := R3.out.lt
  rw [e_b] at cb
  replace l3 := Lib.hid l3
  replace low3 := Lib.hid low3
  replace tb := Lib.hid tb
  replace Bb := Lib.hid Bb
  replace low3b := Lib.hid low3b
  replace R3b := Lib.hid R3b
  replace R3 := Lib.hid R3
  replace B3 := Lib.hid B3
  replace n2 := Lib.hid n2
  go_wp2_with fail
  refine Calls.mono cb.out ?_
  clear cb
  rintro e w4 ⟨rfl, F4, l4, f4, U4⟩
  have R4 : RowB w4 w2.heap.size 27 (sumOf tABC) := R3b.out.other (U4.block _ R3b.out.lt n2.out)
  have low4 : Below w.heap.size w w4 := low3b.out.trans (U4.below (fun k hk hF => by have := (g2.out k hF).1; omega) low3b.out.size)
  have n4 : ¬ F4 w2.heap.size := fun h => by
    rcases (f4 _ h).1 with h | h
    · exact n2.out h
    · exact absurd (Nat.lt_of_lt_of_le R3b.out.lt h) (Nat.lt_irrefl _)
  have g4 : ∀ k, F4 k → w.heap.size ≤ k ∧ k < w4.heap.size := fun k hk => ⟨by
    rcases (f4 k hk).1 with h | h
    · exact (g2.out k h).1
    · exact Nat.le_trans low3b.out.size h, (f4 k hk).2⟩
  clear f4 U4 l3 low3 tb Bb low3b R3b R3 B3
  have tc : TextAt (w4.alloc (.cells (u8s tABC) 5 (3, 4))) (.slice (some ⟨w4.heap.size, 0, none⟩) 3 3) tABC := lit_text tABC (by decide) 3 rfl _ _
  have Bc : Below w4.heap.size w4 (w4.alloc (.cells (u8s tABC) 5 (3, 4))) := (Below.refl _ _).alloc (Nat.le_refl _) _
  have cc := Lib.hid (lsum_st (l4.below Bc) _ _ tc (by decide) (by decide))
  rw [keep_abc] at cc
  have low4c := low4.trans (Bc.mono low4.size)
  have R4c : RowB (w4.alloc (.cells (u8s tABC) 5 (3, 4))) w2.heap.size 27 (sumOf tABC) := R4.below Bc R4.lt
  rw [e_abc] at cc
  replace l4 := Lib.hid l4
  replace low4 := Lib.hid low4
  replace tc := Lib.hid tc
  replace Bc := Lib.hid Bc
  replace low4c := Lib.hid low4c
  replace R4 := Lib.hid R4
  replace R4c := Lib.hid R4c
  replace n4 := Lib.hid n4
  replace g4 := Lib.hid g4
  go_wp2_with fail
  refine Calls.mono cc.out ?_
  clear cc
  rintro e w5 ⟨rfl, F5, l5, f5, U5⟩
  have R5 : RowB w5 w2.heap.size 27 (sumOf tABC) := R4c.out.other (U5.block _ R4c.out.lt n4.out)
  have low5 : Below w.heap.size w w5 := low4c.out.trans (U5.below (fun k hk hF => by have := (g4.out k hF).1; omega) low4c.out.size)
  clear f5 U5 l4 low4 tc Bc low4c R4 R4c n4 g4 l2 low2 g2 n2
  replace l5 := Lib.hid l5
  replace low5 := Lib.hid low5
  replace R5 := Lib.hid R5
  go_wp2_with (refine wpList_store_n (by rfl) 27 (.tmp 3) (.tmp 19) rfl (sumOf tABC) rfl rfl is zs ?_; intro w6 R6 B6)
  have R62 : RowB w6 w2.heap.size 27 (sumOf tABC) := R5.out.below B6.out R5.out.lt
  have l6 := l5.out.below B6.out
  have low6 := low5.out.trans (B6.out.mono low5.out.size)
  have ck := Lib.hid (lclash_any l6 (by decide))
  have s5 := R6.out.lt
  clear R5 l5 low5 B6
  replace R62 := Lib.hid R62
  replace l6 := Lib.hid l6
  replace low6 := Lib.hid low6
  replace R6 := Lib.hid R6
  refine ck.out.mono ?_
  clear ck
  unfold ClashSays
  rw [clash_abc]
  rintro e w7 ⟨rfl, B7⟩
  have R72 := R62.out.below B7 R62.out.lt
  have R73 := R6.out.below B7 R6.out.lt
  have l7 := l6.out.below B7
  have low7 := low6.out.trans (B7.mono low6.out.size)
  have c0 := R72.cell (i := 0) (x := 186) abc_0
  have q1 := fun (x : World) => run_eql_arr (P := Try.prog) Try.underlying27 Try.underlying5 (by kernel_rfl) (sumOf_lt tABC) (sumOf_lt tABC) (length_sumOf _) (length_sumOf _) x
  rw [show (sumOf tABC == sumOf tABC) = true from beq_self_eq_true _] at q1
  have cn := Lib.hid (lcount_any l7)
  have tb : TextAt (w7.alloc (.cells (u8s tB) 5 (1, 2))) (.slice (some ⟨w7.heap.size, 0, none⟩) 1 1) tB := lit_text tB (by decide) 1 rfl _ _
  have Bb : Below w7.heap.size w7 (w7.alloc (.cells (u8s tB) 5 (1, 2))) := (Below.refl _ _).alloc (Nat.le_refl _) _
  have ch := Lib.hid (lhas_st (l7.below Bb) _ _ tb (by decide) (by decide))
  rw [show decide (tB ∈ [tABC, tB]) = true from rfl] at ch
  have low7b := low7.trans (Bb.mono low7.size)
  rw [e_b] at ch
  simp only [show ((186 : Nat) : Int) = 186 from rfl] at c0
  clear R62 R6 l6 low6 B7
  replace R72 := Lib.hid R72
  replace R73 := Lib.hid R73
  replace l7 := Lib.hid l7
  replace low7 := Lib.hid low7
  replace tb := Lib.hid tb
  replace Bb := Lib.hid Bb
  replace low7b := Lib.hid low7b
  go_wp2_with (first
    | (refine wpList_load_b (by rfl) 27 (.tmp 2) rfl w2.heap.size rfl 27 (sumOf tABC) ?hh _ Try.underlying27 rfl is ?_; case hh => exact R72.out)
    | (refine wpList_load_b (by rfl) 27 (.tmp 3) rfl w5.heap.size rfl 27 (sumOf tABC) ?hh _ Try.underlying27 rfl is ?_; case hh => exact R73.out))
  refine cn.out.mono ?_
  rintro e w8 ⟨rfl, rfl⟩
  go_wp2_with fail
  refine Calls.mono ch.out ?_
  rintro e w8 ⟨rfl, B8⟩
  have l8 := (l7.out.below Bb.out).below B8
  have low8 := low7b.out.trans (B8.mono low7b.out.size)
  have cx := Lib.hid (lhas_st l8 _ _ (TextAt.nil w8) (by decide) (by decide))
  rw [show decide ([] ∈ [tABC, tB]) = false from rfl] at cx
  replace l8 := Lib.hid l8
  replace low8 := Lib.hid low8
  replace B8 := Lib.hid B8
  go_wp2_with fail
  refine cx.out.mono ?_
  rintro e w9 ⟨rfl, B9⟩
  have low9 := low8.out.trans (B9.mono low8.out.size)
  replace low9 := Lib.hid low9
  go_wp2_with fail
  go_ret
  exact ⟨rfl, low9.out⟩
end Go.Proofs.Ytjbmdeppoobccaa
