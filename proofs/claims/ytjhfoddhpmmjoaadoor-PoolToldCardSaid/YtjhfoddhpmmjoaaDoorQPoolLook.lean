/-
  pool: New, Clash; casematelaw11.Full. Conditions: the disk and the log lie in blocks of their own; the pool fits.
  A pool under way: what its calls leave, and its numbers. Condition: its blocks are its own.
  What a pool's disk shows behind writes and turns; a text just made; what two unlike sums tell. No condition.
-/
import Derived.Test.YtjhfoddhpmmjoaaDoorQPoolGet
import Derived.Deep.CutRange
namespace Go.Proofs.YtjhfoddhpmmjoaaDoor
set_option maxRecDepth 100000
open Go.RowKit Go.Maps

/-! ### Full -/
def fullN (n : Int) : Nat := if 0 < n ∧ n < 600 then n.toNat else 512
def fullT (x : Nat) (n : Int) : List Nat := List.replicate (fullN n) x
theorem fullN_lt (n : Int) : fullN n < 600 := by unfold fullN; split <;> omega
theorem fullT_length (x : Nat) (n : Int) : (fullT x n).length = fullN n := by simp [fullT]
theorem fullT_small {x : Nat} (hx : x < 256) (n : Int) : ∀ y ∈ fullT x n, y < 256 := by intro y hy; have := (List.mem_replicate.1 hy).2; omega
theorem fill_step (x N i : Nat) (h : i < N) : (List.replicate i x ++ List.replicate (N - i) 0).set i x = List.replicate (i + 1) x ++ List.replicate (N - (i + 1)) 0 := by
  have e : N - i = (N - (i + 1)) + 1 := by omega
  rw [e, List.replicate_succ, List.set_append_right _ _ (by simp)]
  simp [List.replicate_succ']
set_option maxRecDepth 100000 in
theorem full_loop (w : World) (x : Nat) (hx : x < 256) (n : Int) :
    Calls Tryd.prog 33 #[.int .u8 (x : Int), .int .i64 n] w fun e w' => ∃ v, e = .returned v ∧ Own w' w.heap.size 5 v (u8l (fullT x n)) ∧ Below w.heap.size w w' ∧ TextAt w' v (fullT x n) := by
  have hN := fullN_lt n
  have hc : (decide (n > 0) = false ∧ fullN n = 512) ∨ (decide (n > 0) = true ∧ decide (n < 600) = false ∧ fullN n = 512) ∨ (decide (n > 0) = true ∧ decide (n < 600) = true ∧ (fullN n : Int) = n) := by
    unfold fullN
    by_cases h1 : n > 0
    · by_cases h2 : n < 600
      · exact .inr (.inr ⟨decide_eq_true h1, decide_eq_true h2, by rw [if_pos ⟨h1, h2⟩]; omega⟩)
      · exact .inr (.inl ⟨decide_eq_true h1, decide_eq_false h2, by rw [if_neg (fun e => h2 e.2)]⟩)
    · exact .inl ⟨decide_eq_false h1, by rw [if_neg (fun e => h1 e.1)]⟩
  have eT : fullT x n = List.replicate (fullN n) x := rfl
  generalize fullN n = N at *
  have hmk := run_make_u8 N N (Nat.le_refl _) (by omega)
  have fin : ∀ wx : World, RowB wx w.heap.size 5 (List.replicate N x ++ List.replicate (N - N) 0) → Below w.heap.size w wx → Own wx w.heap.size 5 (.slice (some ⟨w.heap.size, 0, none⟩) N N) (u8l (fullT x n)) ∧ Below w.heap.size w wx ∧ TextAt wx (.slice (some ⟨w.heap.size, 0, none⟩) N N) (fullT x n) := fun wx hr hB => by
    have e : List.replicate N x ++ List.replicate (N - N) 0 = fullT x n := by rw [eT]; simp
    rw [e] at hr
    have el : (u8l (fullT x n)).length = N := by rw [eT]; simp [u8l]
    have o := Own.made (w := wx) (base := w.heap.size) (b := w.heap.size) (e := 5) (xs := u8l (fullT x n)) (by exact hr) (Nat.le_refl _) (by rw [el]; simp only [maxLen]; omega)
    rw [el] at o
    exact ⟨o, hB, o.text (fullT_small hx n)⟩
  have b0 : Below w.heap.size w (w.alloc (.cells (u8s (List.replicate N 0)) 5)) := (Below.refl _ _).alloc (Nat.le_refl _) _
  have r0 : RowB (w.alloc (.cells (u8s (List.replicate N 0)) 5)) w.heap.size 5 (List.replicate 0 x ++ List.replicate (N - 0) 0) := by simp only [List.replicate_zero, List.nil_append, Nat.sub_zero]; exact heap_alloc_new _ _
  replace fin := Lib.hid fin
  replace b0 := Lib.hid b0
  replace r0 := Lib.hid r0
  replace eT := Lib.hid eT
  rcases hc with ⟨d3, hn⟩ | ⟨d3, d4, hn⟩ | ⟨d3, d4, hn⟩
  · have e5 : (512 : Int) = (N : Int) := by omega
    go_enter Tryd.func33, Tryd.ntmps33
    go_upto_region 4 with (fail)
    rw [e5]
    clear e5 hn
    go_wp2_with fail
    go_loopw [7] (fun iv wr => ∃ i : Nat, i ≤ N ∧ iv = .int .i64 (i : Int) ∧ Hid (RowB wr w.heap.size 5 (List.replicate i x ++ List.replicate (N - i) 0)) ∧ Hid (Below w.heap.size w wr)) (fun iv _ => N - (intOf iv).toNat)
    case atStart => exact ⟨0, Nat.zero_le _, rfl, r0, b0⟩
    case round =>
      clear r0 b0
      obtain ⟨i, hi, rfl, r, B⟩ := hrel
      by_cases hlt : i < N
      · have d1 : decide ((i : Int) < (N : Int)) = true := decide_eq_true (by omega)
        have d2 : 0 ≤ (i : Int) ∧ (i : Int) < (N : Int) := by omega
        have hcell := r.out.byt (i := i) (by simp; omega)
        have z := r.out.frozen i
        have r2 := r.out.set i x
        rw [fill_step x N i hlt] at r2
        have B2 : Below w.heap.size w (wr.setCell ⟨w.heap.size, i, none⟩ (.int .u8 (x : Int))) := B.out.trans ((Upd.setCell (S := fun k => k = w.heap.size) (Upd.refl _ wr) ⟨w.heap.size, i, none⟩ _ (fun _ => rfl)).below (fun k hk e => by omega) B.out.size)
        generalize byt (List.replicate i x ++ List.replicate (N - i) 0) i = y at *
        replace r := Lib.hid r
        replace B := Lib.hid B
        replace r2 := Lib.hid r2
        replace B2 := Lib.hid B2
        go_wp2_with fail
        go_roundw
        case rel => exact ⟨i + 1, by omega, by go_num, r2, B2⟩
        case measure => simp [intOf]; omega
      · obtain rfl : i = N := by omega
        have d1 : decide ((i : Int) < (i : Int)) = false := decide_eq_false (by omega)
        go_wp2_with fail
        go_ret
        exact ⟨_, rfl, fin.out _ r.out B.out⟩
  · have e5 : (512 : Int) = (N : Int) := by omega
    go_enter Tryd.func33, Tryd.ntmps33
    go_upto_region 4 with (fail)
    rw [e5]
    clear e5 hn
    go_wp2_with fail
    go_loopw [7] (fun iv wr => ∃ i : Nat, i ≤ N ∧ iv = .int .i64 (i : Int) ∧ Hid (RowB wr w.heap.size 5 (List.replicate i x ++ List.replicate (N - i) 0)) ∧ Hid (Below w.heap.size w wr)) (fun iv _ => N - (intOf iv).toNat)
    case atStart => exact ⟨0, Nat.zero_le _, rfl, r0, b0⟩
    case round =>
      clear r0 b0
      obtain ⟨i, hi, rfl, r, B⟩ := hrel
      by_cases hlt : i < N
      · have d1 : decide ((i : Int) < (N : Int)) = true := decide_eq_true (by omega)
        have d2 : 0 ≤ (i : Int) ∧ (i : Int) < (N : Int) := by omega
        have hcell := r.out.byt (i := i) (by simp; omega)
        have z := r.out.frozen i
        have r2 := r.out.set i x
        rw [fill_step x N i hlt] at r2
        have B2 : Below w.heap.size w (wr.setCell ⟨w.heap.size, i, none⟩ (.int .u8 (x : Int))) := B.out.trans ((Upd.setCell (S := fun k => k = w.heap.size) (Upd.refl _ wr) ⟨w.heap.size, i, none⟩ _ (fun _ => rfl)).below (fun k hk e => by omega) B.out.size)
        generalize byt (List.replicate i x ++ List.replicate (N - i) 0) i = y at *
        replace r := Lib.hid r
        replace B := Lib.hid B
        replace r2 := Lib.hid r2
        replace B2 := Lib.hid B2
        go_wp2_with fail
        go_roundw
        case rel => exact ⟨i + 1, by omega, by go_num, r2, B2⟩
        case measure => simp [intOf]; omega
      · obtain rfl : i = N := by omega
        have d1 : decide ((i : Int) < (i : Int)) = false := decide_eq_false (by omega)
        go_wp2_with fail
        go_ret
        exact ⟨_, rfl, fin.out _ r.out B.out⟩
  · subst hn
    have p1 : 0 < N := by have := of_decide_eq_true d3; omega
    have p2 : N < 600 := by have := of_decide_eq_true d4; omega
    go_enter Tryd.func33, Tryd.ntmps33
    go_wp2_with fail
    go_loopw [7] (fun iv wr => ∃ i : Nat, i ≤ N ∧ iv = .int .i64 (i : Int) ∧ Hid (RowB wr w.heap.size 5 (List.replicate i x ++ List.replicate (N - i) 0)) ∧ Hid (Below w.heap.size w wr)) (fun iv _ => N - (intOf iv).toNat)
    case atStart => exact ⟨0, Nat.zero_le _, rfl, r0, b0⟩
    case round =>
      clear r0 b0
      obtain ⟨i, hi, rfl, r, B⟩ := hrel
      by_cases hlt : i < N
      · have d1 : decide ((i : Int) < (N : Int)) = true := decide_eq_true (by omega)
        have d2 : 0 ≤ (i : Int) ∧ (i : Int) < (N : Int) := by omega
        have hcell := r.out.byt (i := i) (by simp; omega)
        have z := r.out.frozen i
        have r2 := r.out.set i x
        rw [fill_step x N i hlt] at r2
        have B2 : Below w.heap.size w (wr.setCell ⟨w.heap.size, i, none⟩ (.int .u8 (x : Int))) := B.out.trans ((Upd.setCell (S := fun k => k = w.heap.size) (Upd.refl _ wr) ⟨w.heap.size, i, none⟩ _ (fun _ => rfl)).below (fun k hk e => by omega) B.out.size)
        generalize byt (List.replicate i x ++ List.replicate (N - i) 0) i = y at *
        replace r := Lib.hid r
        replace B := Lib.hid B
        replace r2 := Lib.hid r2
        replace B2 := Lib.hid B2
        go_wp2_with fail
        go_roundw
        case rel => exact ⟨i + 1, by omega, by go_num, r2, B2⟩
        case measure => simp [intOf]; omega
      · obtain rfl : i = N := by omega
        have d1 : decide ((i : Int) < (i : Int)) = false := decide_eq_false (by omega)
        go_wp2_with fail
        go_ret
        exact ⟨_, rfl, fin.out _ r.out B.out⟩

/-! ### New, Clash -/
set_option maxHeartbeats 4000000 in
set_option maxRecDepth 100000 in
theorem pnew_ok {w : World} {FD FL : Nat → Prop} {db lb : Nat} {D : Dk} {T : List (List Nat)} (hd : DiskAt w FD db D) (hl : LogAt w FL lb T) (start n : Nat) (h1 : 1 ≤ n) (h2 : n ≤ 2048) (h3 : start + n ≤ D.n) (hF : ∀ k, FD k → k < w.heap.size ∧ ¬ FL k) (hL : ∀ k, FL k → k < w.heap.size) :
    Calls Tryd.prog 35 #[.pointer (some ⟨db, 0, none⟩), .int .i64 (start : Int), .int .i64 (n : Int), .pointer (some ⟨lb, 0, none⟩)] w fun e w' => ∃ l : Pl, e = .returned (.tuple #[.pointer (some ⟨l.p, 0, none⟩), .int .i64 0]) ∧ l.db = db ∧ l.lb = lb ∧ PoolP w' l FD FL ⟨start, n, 0, D, T, fun _ => 0, fun _ => Ten.no⟩ ∧ (∀ k, l.field k ∨ l.own k → w.heap.size ≤ k ∧ k < w'.heap.size) ∧ Below w.heap.size w w' := by
  have hbig : D.n ≤ 65536 := by obtain ⟨_, _, _, h⟩ := hd; exact h.hi
  have BA : Below w.heap.size w (w.alloc (.cells #[.int .i64 (start : Int)] 3)) := (Below.refl _ _).alloc (Nat.le_refl _) _
  have cs := fun x (hx : DiskAt x FD db D) => dsize_any hx
  have hmf : ∀ (fn : Fn) (first cap : Array Value) (w : World), (Instr.makeFunc fn first cap).run Tryd.prog w = .ok (.func fn first cap) w := fun _ _ _ _ => rfl
  have d0 : ((D.n : Int) == 0) = false := by simp; omega
  have d0n : ¬ D.n = 0 := by omega
  have d1 : decide ((start : Int) < 0) = false := decide_eq_false (by omega)
  have d2 : decide ((n : Int) < 1) = false := decide_eq_false (by omega)
  have d3 : decide ((n : Int) > 2048) = false := decide_eq_false (by omega)
  have d4 : decide ((start : Int) ≥ (D.n : Int)) = false := decide_eq_false (by omega)
  have d4n : ¬ D.n ≤ start := by omega
  have d5 : IntKind.i64.wrap ((D.n : Int) - (start : Int)) = (D.n : Int) - (start : Int) := IntWalk.i64_in _ (by omega)
  have d6 : decide ((n : Int) > (D.n : Int) - (start : Int)) = false := decide_eq_false (by omega)
  have q0 : (w.alloc (.cells #[.int .i64 (start : Int)] 3)).cell? ⟨w.heap.size, 0, none⟩ = some (.int .i64 (start : Int)) := by simp
  have dA := hd.below BA
  replace hd := Lib.hid hd
  replace hl := Lib.hid hl
  replace hF := Lib.hid hF
  replace hL := Lib.hid hL
  replace BA := Lib.hid BA
  replace cs := Lib.hid cs
  replace dA := Lib.hid dA
  go_enter Tryd.func35, Tryd.ntmps35
  go_wp2_with fail
  refine (cs.out _ dA.out).mono ?_
  rintro e w1 ⟨rfl, hw1⟩
  have B1 : Below w.heap.size w w1 := hw1 ▸ BA.out
  have q1 : w1.cell? ⟨w.heap.size, 0, none⟩ = some (.int .i64 (start : Int)) := hw1 ▸ q0
  have r1 : w1.heap[w.heap.size]? = some (.cells #[.int .i64 (start : Int)] 3 (0, 0)) := hw1 ▸ heap_alloc_new _ _
  have q1d : w1.drew.cell? ⟨w.heap.size, 0, none⟩ = some (.int .i64 (start : Int)) := q1
  have D1 := (hd.out.below B1).drew
  clear hw1 q0 BA dA
  replace B1 := Lib.hid B1
  replace r1 := Lib.hid r1
  replace D1 := Lib.hid D1
  go_wp2_with fail
  refine wp_region_held_drew (S := (fun w' => w'.cell? ⟨w.heap.size, 0, none⟩ = some (.int .i64 (start : Int)))) (by kernel_rfl) (q1d) (fun hHeld => ?_)
  refine held_take (i := 0) (v := ?_) rfl (by kernel_rfl) (by kernel_rfl) (by kernel_rfl) (fun _ _ _ h => h) (Or.inl ⟨by rfl, ?_⟩) (by assumption) ?_
  rotate_left
  · intro w hSw; (try dsimp only at hSw); go_simp; try with_reducible rfl
  try simp only [Act.put, List.setIfInBounds_toArray, List.set_cons_zero, List.set_cons_succ]
  refine held_take (i := 1) (v := ?_) rfl (by kernel_rfl) (by kernel_rfl) (by kernel_rfl) (fun _ _ _ h => h) (Or.inl ⟨by rfl, ?_⟩) (by assumption) ?_
  rotate_left
  · intro w hSw; (try dsimp only at hSw); go_simp; try with_reducible rfl
  try simp only [Act.put, List.setIfInBounds_toArray, List.set_cons_zero, List.set_cons_succ]
  refine held_take (i := 2) (v := ?_) rfl (by kernel_rfl) (by kernel_rfl) (by kernel_rfl) (fun _ _ _ h => h) (Or.inl ⟨by rfl, ?_⟩) (by assumption) ?_
  rotate_left
  · intro w hSw; (try dsimp only at hSw); go_simp; try with_reducible rfl
  try simp only [Act.put, List.setIfInBounds_toArray, List.set_cons_zero, List.set_cons_succ]
  refine held_take (i := 3) (v := ?_) rfl (by kernel_rfl) (by kernel_rfl) (by kernel_rfl) (fun _ _ _ h => h) (Or.inl ⟨by rfl, ?_⟩) (by assumption) ?_
  rotate_left
  · intro w hSw; (try dsimp only at hSw); go_simp; try with_reducible rfl
  try simp only [Act.put, List.setIfInBounds_toArray, List.set_cons_zero, List.set_cons_succ]
  refine held_take (i := 4) (v := ?_) rfl (by kernel_rfl) (by kernel_rfl) (by kernel_rfl) (fun _ _ _ h => h) (Or.inl ⟨by rfl, ?_⟩) (by assumption) ?_
  rotate_left
  · intro w hSw; (try dsimp only at hSw); go_simp; try with_reducible rfl
  try simp only [Act.put, List.setIfInBounds_toArray, List.set_cons_zero, List.set_cons_succ]
  refine held_take (i := 5) (v := ?_) rfl (by kernel_rfl) (by kernel_rfl) (by kernel_rfl) (fun _ _ _ h => h) (Or.inl ⟨by rfl, ?_⟩) (by assumption) ?_
  rotate_left
  · intro w hSw; (try dsimp only at hSw); go_simp; try with_reducible rfl
  try simp only [Act.put, List.setIfInBounds_toArray, List.set_cons_zero, List.set_cons_succ]
  refine held_take (i := 6) (v := ?_) rfl (by kernel_rfl) (by kernel_rfl) (by kernel_rfl) (fun _ _ _ h => h) (Or.inl ⟨by rfl, ?_⟩) (by assumption) ?_
  rotate_left
  · intro w hSw; (try dsimp only at hSw); go_simp; try with_reducible rfl
  try simp only [Act.put, List.setIfInBounds_toArray, List.set_cons_zero, List.set_cons_succ]
  refine held_take (i := 7) (v := ?_) rfl (by kernel_rfl) (by kernel_rfl) (by kernel_rfl) (fun _ _ _ h => h) (Or.inl ⟨by rfl, ?_⟩) (by assumption) ?_
  rotate_left
  · intro w hSw; (try dsimp only at hSw); go_simp; try with_reducible rfl
  try simp only [Act.put, List.setIfInBounds_toArray, List.set_cons_zero, List.set_cons_succ]
  refine held_take (i := 8) (v := ?_) rfl (by kernel_rfl) (by kernel_rfl) (by kernel_rfl) (fun _ _ _ h => h) (Or.inl ⟨by rfl, ?_⟩) (by assumption) ?_
  rotate_left
  · intro w hSw; (try dsimp only at hSw); go_simp; try with_reducible rfl
  try simp only [Act.put, List.setIfInBounds_toArray, List.set_cons_zero, List.set_cons_succ]
  refine held_take (i := 9) (v := ?_) rfl (by kernel_rfl) (by kernel_rfl) (by kernel_rfl) (fun _ _ _ h => h) (Or.inl ⟨by rfl, ?_⟩) (by assumption) ?_
  rotate_left
  · intro w hSw; (try dsimp only at hSw); go_simp; try with_reducible rfl
  try simp only [Act.put, List.setIfInBounds_toArray, List.set_cons_zero, List.set_cons_succ]
  refine held_take (i := 10) (v := ?_) rfl (by kernel_rfl) (by kernel_rfl) (by kernel_rfl) (fun _ _ _ h => h) (Or.inl ⟨by rfl, ?_⟩) (by assumption) ?_
  rotate_left
  · intro w hSw; (try dsimp only at hSw); go_simp; try with_reducible rfl
  try simp only [Act.put, List.setIfInBounds_toArray, List.set_cons_zero, List.set_cons_succ]
  refine held_take (i := 11) (v := ?_) rfl (by kernel_rfl) (by kernel_rfl) (by kernel_rfl) (fun _ _ _ h => h) (Or.inl ⟨by rfl, ?_⟩) (by assumption) ?_
  rotate_left
  · intro w hSw; (try dsimp only at hSw); go_simp; try with_reducible rfl
  try simp only [Act.put, List.setIfInBounds_toArray, List.set_cons_zero, List.set_cons_succ]
  refine held_take (i := 12) (v := ?_) rfl (by kernel_rfl) (by kernel_rfl) (by kernel_rfl) (fun _ _ _ h => h) (Or.inl ⟨by rfl, ?_⟩) (by assumption) ?_
  rotate_left
  · intro w hSw; (try dsimp only at hSw); go_simp; try with_reducible rfl
  try simp only [Act.put, List.setIfInBounds_toArray, List.set_cons_zero, List.set_cons_succ]
  refine held_ready (i := 13) rfl (by kernel_rfl) (fun K hK => ?_)
  go_simp
  refine (cs.out _ D1.out).mono ?_
  rintro e _ ⟨rfl, rfl⟩
  refine hK.out _ _ (q1d) (fun hHeldN => ?_)
  clear hHeld hK K
  have hHeld := hHeldN
  clear hHeldN
  try simp only [Act.put, List.setIfInBounds_toArray, List.set_cons_zero, List.set_cons_succ]
  refine held_take (i := 14) (v := ?_) rfl (by kernel_rfl) (by kernel_rfl) (by kernel_rfl) (fun _ _ _ h => h) (Or.inl ⟨by rfl, ?_⟩) (by assumption) ?_
  rotate_left
  · intro w hSw; (try dsimp only at hSw); go_simp; try with_reducible rfl
  try simp only [Act.put, List.setIfInBounds_toArray, List.set_cons_zero, List.set_cons_succ]
  refine held_take (i := 15) (v := ?_) rfl (by kernel_rfl) (by kernel_rfl) (by kernel_rfl) (fun _ _ _ h => h) (Or.inl ⟨by rfl, ?_⟩) (by assumption) ?_
  rotate_left
  · intro w hSw; (try dsimp only at hSw); go_simp; try with_reducible rfl
  try simp only [Act.put, List.setIfInBounds_toArray, List.set_cons_zero, List.set_cons_succ]
  refine held_take (i := 16) (v := ?_) rfl (by kernel_rfl) (by kernel_rfl) (by kernel_rfl) (fun _ _ _ h => h) (Or.inl ⟨by rfl, ?_⟩) (by assumption) ?_
  rotate_left
  · intro w hSw; (try dsimp only at hSw); go_simp; try with_reducible rfl
  try simp only [Act.put, List.setIfInBounds_toArray, List.set_cons_zero, List.set_cons_succ]
  refine held_take (i := 17) (v := ?_) rfl (by kernel_rfl) (by kernel_rfl) (by kernel_rfl) (fun _ _ _ h => h) (Or.inl ⟨by rfl, ?_⟩) (by assumption) ?_
  rotate_left
  · intro w hSw; (try dsimp only at hSw); go_simp; try with_reducible rfl
  try simp only [Act.put, List.setIfInBounds_toArray, List.set_cons_zero, List.set_cons_succ]
  refine held_take (i := 18) (v := ?_) rfl (by kernel_rfl) (by kernel_rfl) (by kernel_rfl) (fun _ _ _ h => h) (Or.inl ⟨by rfl, ?_⟩) (by assumption) ?_
  rotate_left
  · intro w hSw; (try dsimp only at hSw); go_simp; try with_reducible rfl
  try simp only [Act.put, List.setIfInBounds_toArray, List.set_cons_zero, List.set_cons_succ]
  refine held_take (i := 20) (v := ?_) rfl (by kernel_rfl) (by kernel_rfl) (by kernel_rfl) (fun _ _ _ h => h) (Or.inl ⟨by rfl, ?_⟩) (by assumption) ?_
  rotate_left
  · intro w hSw; (try dsimp only at hSw); go_simp; try with_reducible rfl
  try simp only [Act.put, List.setIfInBounds_toArray, List.set_cons_zero, List.set_cons_succ]
  refine held_ready (i := 19) rfl (by kernel_rfl) (fun K hK => ?_)
  go_simp
  refine (cs.out _ D1.out).mono ?_
  rintro e _ ⟨rfl, rfl⟩
  refine hK.out _ _ (q1d) (fun hHeldN => ?_)
  clear hHeld hK K
  have hHeld := hHeldN
  clear hHeldN
  try simp only [Act.put, List.setIfInBounds_toArray, List.set_cons_zero, List.set_cons_succ]
  refine held_take (i := 21) (v := ?_) rfl (by kernel_rfl) (by kernel_rfl) (by kernel_rfl) (fun _ _ _ h => h) (Or.inl ⟨by rfl, ?_⟩) (by assumption) ?_
  rotate_left
  · intro w hSw; (try dsimp only at hSw); go_simp; try with_reducible rfl
  try simp only [Act.put, List.setIfInBounds_toArray, List.set_cons_zero, List.set_cons_succ]
  refine held_take (i := 22) (v := ?_) rfl (by kernel_rfl) (by kernel_rfl) (by kernel_rfl) (fun _ _ _ h => h) (Or.inl ⟨by rfl, ?_⟩) (by assumption) ?_
  rotate_left
  · intro w hSw; (try dsimp only at hSw); go_simp; try with_reducible rfl
  try simp only [Act.put, List.setIfInBounds_toArray, List.set_cons_zero, List.set_cons_succ]
  refine held_take (i := 23) (v := ?_) rfl (by kernel_rfl) (by kernel_rfl) (by kernel_rfl) (fun _ _ _ h => h) (Or.inl ⟨by rfl, ?_⟩) (by assumption) ?_
  rotate_left
  · intro w hSw; (try dsimp only at hSw); go_simp; try with_reducible rfl
  try simp only [Act.put, List.setIfInBounds_toArray, List.set_cons_zero, List.set_cons_succ]
  refine held_take (i := 24) (v := ?_) rfl (by kernel_rfl) (by kernel_rfl) (by kernel_rfl) (fun _ _ _ h => h) (Or.inl ⟨by rfl, ?_⟩) (by assumption) ?_
  rotate_left
  · intro w hSw; (try dsimp only at hSw); go_simp; try with_reducible rfl
  try simp only [Act.put, List.setIfInBounds_toArray, List.set_cons_zero, List.set_cons_succ]
  refine wpAnyH_done (by kernel_rfl) ?_ _
  clear hHeld
  have ce := enew_ok w1.drew n h1 h2
  replace ce := Lib.hid ce
  go_wp2_with fail
  refine ce.out.mono ?_
  rintro e w2 ⟨fb, rb, rr, rm, g0, g1, g2, g3, rfl, F2, B2⟩
  have B02 : Below w.heap.size w w2 := B1.out.drew.trans (B2.mono B1.out.size)
  have r2 := (B2.block _ (lt_of_block (w := w1.drew) r1.out)).trans r1.out
  have D2 := D1.out.below B2
  have L2 := hl.out.below B02
  have s1 := lt_of_block r1.out
  have s2 := B2.size
  have g0' : w1.heap.size ≤ fb := g0
  have g1' : w1.heap.size ≤ rb := g1
  have g2' : w1.heap.size ≤ rr := g2
  have g3' : w1.heap.size ≤ rm := g3
  clear ce g0 g1 g2 g3 q1 q1d D1 B1 r1
  replace F2 := Lib.hid F2
  replace B02 := Lib.hid B02
  replace r2 := Lib.hid r2
  replace D2 := Lib.hid D2
  replace L2 := Lib.hid L2
  replace B2 := Lib.hid B2
  go_wp2_with fail
  go_ret2
  have BA : Below w2.heap.size w2 (w2.alloc (.cells #[.pointer (some ⟨db, 0, none⟩), .pointer (some ⟨lb, 0, none⟩), .pointer (some ⟨fb, 0, none⟩), .func (.func 67) #[] #[.pointer (some ⟨w.heap.size, 0, none⟩)]] 82)) := (Below.refl _ _).alloc (Nat.le_refl _) _
  have hfl : ∀ k, Four fb rb rr rm k → w1.heap.size ≤ k ∧ k < w2.heap.size := fun k hk => by
    rcases hk with rfl | rfl | rfl | rfl
    · exact ⟨g0', F2.out.f.lt⟩
    · exact ⟨g1', lt_of_block F2.out.r.row⟩
    · exact ⟨g2', lt_of_block F2.out.r.words⟩
    · obtain ⟨Dm, hDm, _⟩ := F2.out.r.map; exact ⟨g3', hDm.lt⟩
  have sw := B02.out.size
  have s2' : w1.heap.size ≤ w2.heap.size := s2
  have own : ∀ k, (k = w2.heap.size ∨ k = w.heap.size) → w.heap.size ≤ k ∧ ¬ Four fb rb rr rm k := fun k hk => ⟨by omega, fun e => by have := hfl k e; omega⟩
  refine ⟨⟨w2.heap.size, db, lb, fb, rb, rr, rm, w.heap.size⟩, rfl, rfl, rfl, ⟨heap_alloc_new _ _, (BA.block _ (lt_of_block r2.out)).trans r2.out, D2.out.below BA, L2.out.below BA, F2.out.below BA, fun k hk => ?_, fun k hk => ?_, fun k hk => (own k hk).2, h3, h1, hbig⟩, fun k hk => ?_, B02.out.trans (BA.mono sw)⟩
  · obtain ⟨a, b⟩ := hF.out k hk
    exact ⟨by simp; omega, b, fun e => by have := hfl k e; omega, fun e => by have := (own k e).1; omega⟩
  · have a := hL.out k hk
    exact ⟨by simp; omega, fun e => by have := hfl k e; omega, fun e => by have := (own k e).1; omega⟩
  · rcases hk with hk | hk
    · have := hfl k hk; simp; omega
    · have hk : k = w2.heap.size ∨ k = w.heap.size := hk
      simp; omega
set_option maxRecDepth 100000 in
theorem pnew_nil (w : World) : Calls Tryd.prog 35 #[.pointer none, .int .i64 0, .int .i64 1, .pointer none] w fun e w' => e = .returned (.tuple #[.pointer none, .int .i64 6]) ∧ Below w.heap.size w w' := by
  have BA : Below w.heap.size w (w.alloc (.cells #[.int .i64 0] 3)) := (Below.refl _ _).alloc (Nat.le_refl _) _
  have cs := dsize_nil (w.alloc (.cells #[.int .i64 0] 3))
  replace BA := Lib.hid BA
  replace cs := Lib.hid cs
  go_enter Tryd.func35, Tryd.ntmps35
  go_wp2_with fail
  refine cs.out.mono ?_
  rintro e _ ⟨rfl, rfl⟩
  go_wp2_with fail
  go_ret2
  exact ⟨rfl, BA.out⟩
set_option maxRecDepth 100000 in
theorem pclash_any {w : World} {l : Pl} {FD FL : Nat → Prop} {s : Ps} (h : PoolP w l FD FL s) (hl : ∀ t ∈ s.T, t.length ≤ 1000000000) : Calls Tryd.prog 38 #[.pointer (some ⟨l.p, 0, none⟩)] w fun e w' => e = .returned (.bool (clashOf s.T).isSome) ∧ Below w.heap.size w w' := by
  have c1 := h.c1
  have cm := pmade_any h
  have cc := lclash_any h.log hl
  unfold ClashSays at cc
  cases hc : clashOf s.T with
  | none =>
    rw [hc] at cc
    replace h := Lib.hid h
    replace cm := Lib.hid cm
    replace cc := Lib.hid cc
    replace hc := Lib.hid hc
    go_enter Tryd.func38, Tryd.ntmps38
    go_wp2_with fail
    refine cm.out.mono ?_
    rintro e _ ⟨rfl, rfl⟩
    go_wp2_with fail
    refine cc.out.mono ?_
    rintro e w2 ⟨rfl, B2⟩
    replace B2 := Lib.hid B2
    go_wp2_with fail
    go_ret
    exact ⟨rfl, B2.out⟩
  | some c =>
    obtain ⟨p, q⟩ := c
    rw [hc] at cc
    replace h := Lib.hid h
    replace cm := Lib.hid cm
    replace cc := Lib.hid cc
    replace hc := Lib.hid hc
    go_enter Tryd.func38, Tryd.ntmps38
    go_wp2_with fail
    refine cm.out.mono ?_
    rintro e _ ⟨rfl, rfl⟩
    go_wp2_with fail
    refine cc.out.mono ?_
    rintro e w2 ⟨⟨v1, v2, rfl, _⟩, B2⟩
    replace B2 := Lib.hid B2
    go_wp2_with fail
    go_ret
    exact ⟨rfl, B2.out⟩
end Go.Proofs.YtjhfoddhpmmjoaaDoor
namespace Go.Proofs.YtjhfoddhpmmjoaaDoor
set_option maxRecDepth 100000
open Go.RowKit Go.Maps

section
variable {w w' w0 : World} {l : Pl} {R R' : Nat → Prop} {s s' : Ps}
theorem PoolAt.field (h : PoolAt w l R s) : FieldAt w l.fb l.rb l.rr l.rm s.n s.m s.L s.E ∧ ∀ w' m' L' E', FieldAt w' l.fb l.rb l.rr l.rm s.n m' L' E' → Upd (Four l.fb l.rb l.rr l.rm) w w' → PoolAt w' l R { s with m := m', L := L', E := E' } ∧ (∀ k, R k → (R k ∨ w.heap.size ≤ k) ∧ k < w'.heap.size) ∧ Upd R w w' := by
  obtain ⟨FD, FL, h1, h2⟩ := h
  refine ⟨h1.field, fun w' m' L' E' hf hU => ⟨⟨FD, FL, h1.turnE hf hU, h2⟩, fun k hk => ⟨.inl hk, Nat.lt_of_lt_of_le (h1.alt ((h2 k).1 hk)) hU.size⟩, hU.mono fun k _ hk => (h2 k).2 (.inr (.inr (.inl hk)))⟩⟩
theorem PoolAt.disk (h : PoolAt w l R s) : ∃ FD : Nat → Prop, DiskAt w FD l.db s.D ∧ (∀ k, FD k → R k) ∧ ∀ w' D', DiskAt w' (fun k => FD k ∨ w.heap.size ≤ k) l.db D' → Upd FD w w' → D'.n = s.D.n → ∃ R', PoolAt w' l R' { s with D := D' } ∧ (∀ k, R' k → (R k ∨ w.heap.size ≤ k) ∧ k < w'.heap.size) ∧ Upd R w w' := by
  obtain ⟨FD, FL, h1, h2⟩ := h
  refine ⟨FD, h1.disk, fun k hk => (h2 k).2 (.inl hk), fun w' D' hd hU hn => ?_⟩
  have P := h1.turnD hd.tight hU (fun k hk => hk) hn
  refine ⟨_, ⟨_, FL, P, fun _ => Iff.rfl⟩, fun k hk => ⟨?_, P.alt hk⟩, hU.mono fun k _ hk => (h2 k).2 (.inl hk)⟩
  rcases hk with hk | hk | hk | hk
  · exact hk.1.imp (fun q => (h2 k).2 (.inl q)) id
  · exact .inl ((h2 k).2 (.inr (.inl hk)))
  · exact .inl ((h2 k).2 (.inr (.inr (.inl hk))))
  · exact .inl ((h2 k).2 (.inr (.inr (.inr hk))))
theorem pfield_at (h : PoolAt w l R s) : Calls Tryd.prog 37 #[.pointer (some ⟨l.p, 0, none⟩)] w fun e w' => e = .returned (.pointer (some ⟨l.fb, 0, none⟩)) ∧ w = w' := by
  obtain ⟨FD, FL, h1, h2⟩ := h; exact pfield_any h1
theorem pclash_at (h : PoolAt w l R s) (hl : ∀ t ∈ s.T, t.length ≤ 1000000000) : Calls Tryd.prog 38 #[.pointer (some ⟨l.p, 0, none⟩)] w fun e w' => e = .returned (.bool (clashOf s.T).isSome) ∧ Below w.heap.size w w' := by
  obtain ⟨FD, FL, h1, h2⟩ := h; exact pclash_any h1 hl
/-- A pool of a law's own. -/
structure PlSt (w0 w : World) (l : Pl) (R : Nat → Prop) (s : Ps) : Prop where
  p : PoolAt w l R s
  lo : ∀ k, R k → w0.heap.size ≤ k
  low : Below w0.heap.size w0 w
theorem PlSt.below (h : PlSt w0 w l R s) (hB : Below w.heap.size w w') : PlSt w0 w' l R s := ⟨h.p.below hB, h.lo, h.low.trans (hB.mono h.low.size)⟩
theorem PlSt.drew (h : PlSt w0 w l R s) : PlSt w0 w.drew l R s := h.below (Below.refl _ _).drew
theorem PlSt.turn (h : PlSt w0 w l R s) (p' : PoolAt w' l R' s') (hk : ∀ k, R' k → (R k ∨ w.heap.size ≤ k) ∧ k < w'.heap.size) (hU : Upd R w w') : PlSt w0 w' l R' s' := by
  have hz := h.low.size
  exact ⟨p', fun k hr => (hk k hr).1.elim (h.lo k) (fun q => by omega), h.low.trans (hU.below (fun k hk hr => by have := h.lo k hr; omega) hz)⟩
theorem PlSt.stay {S : Nat → Prop} (h : PlSt w0 w l R s) (hU : Upd S w w') (hs : ∀ k, R k → ¬ S k) (h0 : ∀ k, S k → w0.heap.size ≤ k) : PlSt w0 w' l R s := by
  obtain ⟨FD, FL, h1, h2⟩ := h.p
  exact ⟨⟨FD, FL, h1.stay hU (fun k hk => hs k ((h2 k).2 hk)), h2⟩, h.lo, h.low.trans (hU.below (fun k hk hr => by have := h0 k hr; omega) h.low.size)⟩
/-- A disk and a log, just made. -/
theorem pool_parts {w w1 w2 : World} {db lb : Nat} {D : Dk} (hd : DiskAt w1 (fun k => w.heap.size ≤ k) db D) (hl : LogAt w2 (fun k => w1.heap.size ≤ k) lb []) (B1 : Below w.heap.size w w1) (B2 : Below w1.heap.size w1 w2) :
    ∃ FD FL : Nat → Prop, DiskAt w2 FD db D ∧ LogAt w2 FL lb [] ∧ (∀ k, FD k → k < w2.heap.size ∧ ¬ FL k) ∧ (∀ k, FL k → k < w2.heap.size) ∧ ∀ k, (FD k ∨ FL k) → w.heap.size ≤ k := by
  have s1 := B1.size
  have s2 := B2.size
  refine ⟨_, _, hd.tight.below B2, hl.tight, fun k hk => ⟨by have := hk.2; omega, fun e => by have := hk.2; have := e.1; omega⟩, fun k hk => hk.2, fun k hk => ?_⟩
  rcases hk with hk | hk
  · exact hk.1
  · have := hk.1; omega
theorem PoolP.made {w w2 w' : World} {l : Pl} {FD FL : Nat → Prop} {s : Ps} (h : PoolP w' l FD FL s) (h0 : ∀ k, (FD k ∨ FL k) → w.heap.size ≤ k) (h1 : ∀ k, l.field k ∨ l.own k → w2.heap.size ≤ k ∧ k < w'.heap.size) (B2 : Below w.heap.size w w2) (B3 : Below w2.heap.size w2 w') : PlSt w w' l (l.all FD FL) s := by
  have s2 := B2.size
  refine ⟨⟨FD, FL, h, fun _ => Iff.rfl⟩, fun k hk => ?_, B2.trans (B3.mono s2)⟩
  rcases hk with hk | hk | hk | hk
  · exact h0 k (.inl hk)
  · exact h0 k (.inr hk)
  · have := (h1 k (.inl hk)).1; omega
  · have := (h1 k (.inr hk)).1; omega
end
/-! ### The numbers -/
structure Ps.Le (s : Ps) (k : Nat) : Prop where
  m : s.m ≤ 2 * k
  calls : s.D.calls ≤ k
  waits : s.D.waits.length ≤ k
  texts : s.T.length ≤ k
  left : s.D.left ≤ 9223372036854775807
theorem Ps.Le.ok {s : Ps} {k : Nat} (h : s.Le k) (hk : k < 10000000) : s.Ok := ⟨by have := h.calls; omega, h.left, by have := h.waits; omega, by have := h.texts; omega, by have := h.m; omega⟩
theorem Ps.Le.mono {s : Ps} {k j : Nat} (h : s.Le k) (hk : k ≤ j) : s.Le j := ⟨by have := h.m; omega, by have := h.calls; omega, by have := h.waits; omega, by have := h.texts; omega, h.left⟩
theorem addT_len (T : List (List Nat)) (t : List Nat) : (addT T t).length ≤ T.length + 1 := by
  by_cases h : t ∈ T
  · rw [addT_in h]; omega
  · rw [addT_out h]; simp
theorem changeD_le (D : Dk) : D.changeD.calls ≤ D.calls + 1 ∧ D.changeD.left ≤ D.left ∧ D.changeD.waits = D.waits ∧ D.changeD.shown = D.shown := by
  unfold Dk.changeD
  split
  · exact ⟨Nat.le_succ _, Nat.le_refl _, rfl, rfl⟩
  · refine ⟨Nat.le_refl _, ?_, rfl, rfl⟩
    show (if D.plan = true then D.left - 1 else D.left) ≤ D.left
    split <;> omega
theorem writeD_le (D : Dk) (s : Nat) (t : List Nat) : (D.writeD s t).calls ≤ D.calls + 1 ∧ (D.writeD s t).left ≤ D.left ∧ (D.writeD s t).waits.length ≤ D.waits.length + 1 := by
  obtain ⟨h1, h2, h3, _⟩ := changeD_le D
  unfold Dk.writeD
  split
  · exact ⟨Nat.le_succ _, Nat.le_refl _, Nat.le_succ _⟩
  · split
    · exact ⟨h1, h2, by simp⟩
    · exact ⟨h1, h2, by rw [h3]; omega⟩
theorem PutRel.le {s s' : Ps} {t E : Int} {b sum : List Nat} {x k : Nat} (h : PutRel s t b x sum E s') (hk : s.Le k) : s'.Le (k + 1) := by
  by_cases h1 : b.length = 512
  · by_cases h2 : takeE s.n s.E t = 0
    · obtain ⟨y, _, _, _, h3⟩ := h.done h1 h2
      obtain ⟨w1, w2, w3⟩ := writeD_le s.D (s.start + y) b
      have a1 := hk.m
      have a2 := hk.calls
      have a3 := hk.waits
      have a4 := hk.texts
      have a5 := hk.left
      have a6 := addT_len s.T b
      rcases h3 with ⟨_, _, _, _, rfl⟩ | ⟨_, _, _, _, rfl⟩
      · exact ⟨by show s.m + 2 ≤ _; omega, by show (s.D.writeD _ _).calls ≤ _; omega, by show (s.D.writeD _ _).waits.length ≤ _; omega, by show s.T.length ≤ _; omega, by show (s.D.writeD _ _).left ≤ _; omega⟩
      · exact ⟨by show s.m + 1 ≤ _; omega, by show (s.D.writeD _ _).calls ≤ _; omega, by show (s.D.writeD _ _).waits.length ≤ _; omega, by show (addT s.T b).length ≤ _; omega, by show (s.D.writeD _ _).left ≤ _; omega⟩
    · obtain ⟨_, rfl, _⟩ := h.full h1 h2
      exact hk.mono (Nat.le_succ k)
  · obtain ⟨_, rfl, _⟩ := h.long h1
    exact hk.mono (Nat.le_succ k)
theorem Ps.Le.add {s : Ps} {k : Nat} (h : s.Le k) (t : List Nat) : ({ s with T := addT s.T t } : Ps).Le (k + 1) :=
  ⟨by have := h.m; show s.m ≤ _; omega, by have := h.calls; show s.D.calls ≤ _; omega, by have := h.waits; show s.D.waits.length ≤ _; omega, by have := h.texts; have := addT_len s.T t; show (addT s.T t).length ≤ _; omega, h.left⟩
theorem Ps.Le.set {s : Ps} {k m' : Nat} {L' : Nat → Nat} {E' : Nat → Ten} (h : s.Le k) (hm : m' ≤ s.m + 2) : ({ s with m := m', L := L', E := E' } : Ps).Le (k + 1) :=
  ⟨by have := h.m; show m' ≤ _; omega, by have := h.calls; show s.D.calls ≤ _; omega, by have := h.waits; show s.D.waits.length ≤ _; omega, by have := h.texts; show s.T.length ≤ _; omega, h.left⟩
/-- All texts are short. -/
def Short (T : List (List Nat)) : Prop := ∀ t ∈ T, t.length ≤ 1000000000
theorem Short.add {T : List (List Nat)} (h : Short T) {t : List Nat} (ht : t.length ≤ 1000000000) : Short (addT T t) := by
  by_cases hin : t ∈ T
  · rw [addT_in hin]; exact h
  · rw [addT_out hin]
    intro x hx
    rcases List.mem_append.1 hx with hx | hx
    · exact h x hx
    · rw [List.mem_singleton.1 hx]; exact ht
end Go.Proofs.YtjhfoddhpmmjoaaDoor
namespace Go.Proofs.YtjhfoddhpmmjoaaDoor
set_option maxRecDepth 100000
open Go.RowKit Go.Maps

theorem changeD_ok {D : Dk} (h : D.changeE = 0) : D.changeD.down = D.down ∧ D.changeD.n = D.n ∧ D.changeD.plan = D.plan := by
  unfold Dk.changeE at h
  unfold Dk.changeD
  split
  · rename_i q; rw [if_pos q] at h; exact absurd h (by decide)
  · exact ⟨rfl, rfl, rfl⟩
theorem write_ok {D : Dk} {s : Nat} {t : List Nat} (h : D.writeE s t.length = 0) : D.writeD s t = { D.changeD with shown := updM D.shown s t, waits := D.waits ++ [(s, t)] } ∧ D.down = false ∧ s < D.n ∧ t.length = 512 ∧ D.changeE = 0 := by
  unfold Dk.writeE at h
  split at h
  · exact absurd h (by decide)
  · rename_i h1
    split at h
    · exact absurd h (by decide)
    · rename_i h2
      split at h
      · exact absurd h (by decide)
      · rename_i h3
        have h3' : t.length = 512 := by simpa using h3
        refine ⟨?_, by simpa using h1, by omega, h3', h⟩
        unfold Dk.writeD
        rw [if_neg (by rintro (e | e | e); exact h1 e; exact h2 e; exact h3 e), if_pos h]
theorem write_look {D : Dk} {s : Nat} {t : List Nat} (h : D.writeE s t.length = 0) : (D.writeD s t).look s = t ∧ (∀ k, k ≠ s → (D.writeD s t).look k = D.look k) ∧ (D.writeD s t).down = false := by
  obtain ⟨e, hd, _, _, hc⟩ := write_ok h
  rw [e]
  refine ⟨?_, fun k hk => ?_, ?_⟩
  · unfold Dk.look; show (updM D.shown s t s).getD _ = t; rw [updM_same]; rfl
  · unfold Dk.look; show (updM D.shown s t k).getD _ = _; rw [updM_other _ _ hk]
  · show D.changeD.down = false; rw [(changeD_ok hc).1, hd]
theorem write_no {D : Dk} {s : Nat} {t : List Nat} (h : D.writeE s t.length ≠ 0) (k : Nat) : (D.writeD s t).look k = D.look k := by
  obtain ⟨_, _, _, hs⟩ := changeD_le D
  have e2 : D.changeD.look k = D.look k := by unfold Dk.look; rw [hs]
  unfold Dk.writeD
  split
  · rfl
  · split
    · rename_i h1 h2
      exfalso
      apply h
      unfold Dk.writeE
      rw [if_neg (fun e => h1 (.inl e)), if_neg (fun e => h1 (.inr (.inl e))), if_neg (fun e => h1 (.inr (.inr e)))]
      exact h2
    · exact e2
theorem tamper_look {D : Dk} {s : Nat} {t : List Nat} (h1 : s < D.n) (h2 : t.length = 512) : D.tamperE s t.length = 0 ∧ (D.tamperD s t).look s = t ∧ (∀ k, k ≠ s → (D.tamperD s t).look k = D.look k) := by
  have e : D.tamperD s t = { D with sure := updM D.sure s t, shown := updM D.shown s t, waits := D.waits.filter fun p => p.1 != s } := by
    unfold Dk.tamperD; rw [if_neg (by rintro (e | e); omega; exact e h2)]
  refine ⟨?_, ?_, fun k hk => ?_⟩
  · unfold Dk.tamperE; rw [if_neg (by omega), if_neg (fun e => e h2)]
  · rw [e]; unfold Dk.look; show (updM D.shown s t s).getD _ = t; rw [updM_same]; rfl
  · rw [e]; unfold Dk.look; show (updM D.shown s t k).getD _ = _; rw [updM_other _ _ hk]
theorem tamperD_same (D : Dk) (s : Nat) (t : List Nat) : (D.tamperD s t).n = D.n ∧ (D.tamperD s t).down = D.down ∧ (D.tamperD s t).calls = D.calls ∧ (D.tamperD s t).left = D.left ∧ (D.tamperD s t).plan = D.plan ∧ (D.tamperD s t).waits.length ≤ D.waits.length := by
  unfold Dk.tamperD
  split
  · exact ⟨rfl, rfl, rfl, rfl, rfl, Nat.le_refl _⟩
  · exact ⟨rfl, rfl, rfl, rfl, rfl, List.length_filter_le _ _⟩
theorem Ps.Le.tamper {s : Ps} {k : Nat} (h : s.Le k) (a : Nat) (t : List Nat) : ({ s with D := s.D.tamperD a t } : Ps).Le k := by
  obtain ⟨_, _, e3, e4, _, e6⟩ := tamperD_same s.D a t
  exact ⟨h.m, by show (s.D.tamperD a t).calls ≤ _; rw [e3]; exact h.calls, by show (s.D.tamperD a t).waits.length ≤ _; exact Nat.le_trans e6 h.waits, h.texts, by show (s.D.tamperD a t).left ≤ _; rw [e4]; exact h.left⟩
/-- A text just made stays, whatever the pool's blocks do. -/
theorem fresh_text {w w' : World} {R : Nat → Prop} {v : Value} {t : List Nat} (o : Own w' w.heap.size 5 v (u8l t)) (hs : ∀ x ∈ t, x < 256) (hR : ∀ k, R k → k < w.heap.size) : ∀ wx, Upd R w' wx → TextAt wx v t := fun wx u =>
  (o.other (fun k hk => u.block k (o.lt k hk).2 (fun hr => by have := hR k hr; have := (o.lt k hk).1; omega))).text hs
theorem clash_pair {a b : List Nat} (h : ¬ sumOf a = sumOf b) : clashOf [a, b] = none := by
  have e0 : clashOf [a] = none := by
    rw [show [a] = [] ++ [a] from rfl, clashOf_snoc]
    rfl
  have e : bucket [a] (sumOf b) = [] := List.eq_nil_iff_forall_not_mem.2 fun t ht => by
    obtain ⟨h1, h2⟩ := mem_bucket.1 ht
    rw [List.mem_singleton.1 h1] at h2
    exact h h2
  rw [show [a, b] = [a] ++ [b] from rfl, clashOf_snoc, e0, e]
end Go.Proofs.YtjhfoddhpmmjoaaDoor
