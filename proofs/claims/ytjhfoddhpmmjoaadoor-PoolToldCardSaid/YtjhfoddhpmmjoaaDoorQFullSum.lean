/-
  hashlog's Clash, and Sum in short. Conditions: the log lies in blocks of its own; texts not too long.
  The sums of two sectors, each of one byte, reckoned: they are unlike. No condition; no program in sight.
-/
import Derived.Test.YtjhfoddhpmmjoaaDoorQHashSum
namespace Go.Proofs.YtjhfoddhpmmjoaaDoor
set_option maxRecDepth 100000
open Go.RowKit Go.Maps


/-- What Clash says. -/
def ClashSays (w : World) (T : List (List Nat)) (e : Ending) (w' : World) : Prop :=
  (match clashOf T with
    | none => e = .returned (.tuple #[.slice none 0 0, .slice none 0 0, .bool false])
    | some (p, q) => ∃ v1 v2, e = .returned (.tuple #[v1, v2, .bool true]) ∧ Own w' w.heap.size 5 v1 (u8l p) ∧ Own w' w.heap.size 5 v2 (u8l q) ∧ (∀ x ∈ p, x < 256) ∧ ∀ x ∈ q, x < 256) ∧ Below w.heap.size w w'

set_option maxHeartbeats 4000000 in
set_option maxRecDepth 100000 in
theorem lclash_any {w : World} {F : Nat → Prop} {b : Nat} {T : List (List Nat)} (h : LogAt w F b T) (hl : ∀ t ∈ T, t.length ≤ 1000000000) :
    Calls Tryd.prog 70 #[.pointer (some ⟨b, 0, none⟩)] w (ClashSays w T) := by
  have cm := Lib.hid (lmade_any h)
  have hn := h.nodup
  obtain ⟨mb, one, two, cl, h1, _, h3⟩ := h.ex
  have c4 : w.cell? ⟨b, 4, none⟩ = some (.bool cl) := (cell_of_row _ _ 4 _ _ _ h1).trans rfl
  unfold ClashSays
  cases hq : clashOf T with
  | none =>
    rw [hq] at h3
    subst h3
    replace h := Lib.hid h
    replace h1 := Lib.hid h1
    replace hn := Lib.hid hn
    replace hl := Lib.hid hl
    replace hq := Lib.hid hq
    go_enter Tryd.func70, Tryd.ntmps70
    go_wp2_with fail
    refine cm.out.mono ?_
    rintro e w2 ⟨rfl, rfl⟩
    go_wp2_with fail
    go_ret3
    exact ⟨rfl, Below.refl _ _⟩
  | some pq =>
    obtain ⟨p, q⟩ := pq
    rw [hq] at h3
    obtain ⟨rfl, o1, o2⟩ := h3
    obtain ⟨m1, m2, _, _⟩ := clashOf_spec hn hq
    have l1 := hl p m1
    have l2 := hl q m2
    have c2 : w.drew.cell? ⟨b, 2, none⟩ = some one := (cell_of_row _ _ 2 _ _ _ h1).trans rfl
    have c3 : w.drew.cell? ⟨b, 3, none⟩ = some two := (cell_of_row _ _ 3 _ _ _ h1).trans rfl
    have t1 := o1.text.drew
    have t2 := o2.text.drew
    have ct := Lib.hid (clone_any w.drew one p t1 l1)
    have B0 : Below w.heap.size w w.drew := (Below.refl _ _).drew
    replace h := Lib.hid h
    replace h1 := Lib.hid h1
    replace hn := Lib.hid hn
    replace hl := Lib.hid hl
    replace hq := Lib.hid hq
    replace o1 := Lib.hid o1
    replace o2 := Lib.hid o2
    replace m1 := Lib.hid m1
    replace m2 := Lib.hid m2
    replace l1 := Lib.hid l1
    replace l2 := Lib.hid l2
    replace t1 := Lib.hid t1
    replace t2 := Lib.hid t2
    replace B0 := Lib.hid B0
    go_enter Tryd.func70, Tryd.ntmps70
    go_wp2_with fail
    refine cm.out.mono ?_
    rintro e w2 ⟨rfl, rfl⟩
    go_wp2_with fail
    refine wp_region_held_drew (S := (fun w' => w'.cell? ⟨b, 2, none⟩ = some one ∧ w'.cell? ⟨b, 3, none⟩ = some two)) (by kernel_rfl) (⟨c2, c3⟩) (fun hHeld => ?_)
    refine held_take (i := 0) (v := ?_) rfl (by kernel_rfl) (by kernel_rfl) (by kernel_rfl) (fun _ _ _ h => h) (Or.inl ⟨by rfl, ?_⟩) (by assumption) ?_
    rotate_left
    · intro w hSw; (try dsimp only at hSw); go_simp; try with_reducible rfl
    try simp only [Act.put, List.setIfInBounds_toArray, List.set_cons_zero, List.set_cons_succ]
    refine held_take (i := 1) (v := ?_) rfl (by kernel_rfl) (by kernel_rfl) (by kernel_rfl) (fun _ _ _ h => h) (Or.inl ⟨by rfl, ?_⟩) (by assumption) ?_
    rotate_left
    · intro w hSw; (try dsimp only at hSw); go_simp; try with_reducible rfl
    try simp only [Act.put, List.setIfInBounds_toArray, List.set_cons_zero, List.set_cons_succ]
    refine held_take (i := 2) (v := ?_) rfl (by kernel_rfl) (by kernel_rfl) (by kernel_rfl) (fun _ _ _ h => h) (Or.inl ⟨by rfl, ?_⟩) (by assumption) ?_
    rotate_left
    · intro w hSw; (try dsimp only at hSw); go_simp; try with_reducible rfl
    try simp only [Act.put, List.setIfInBounds_toArray, List.set_cons_zero, List.set_cons_succ]
    refine held_take (i := 3) (v := ?_) rfl (by kernel_rfl) (by kernel_rfl) (by kernel_rfl) (fun _ _ _ h => h) (Or.inl ⟨by rfl, ?_⟩) (by assumption) ?_
    rotate_left
    · intro w hSw; (try dsimp only at hSw); go_simp; try with_reducible rfl
    try simp only [Act.put, List.setIfInBounds_toArray, List.set_cons_zero, List.set_cons_succ]
    refine held_take (i := 5) (v := ?_) rfl (by kernel_rfl) (by kernel_rfl) (by kernel_rfl) (fun _ _ _ h => h) (Or.inl ⟨by rfl, ?_⟩) (by assumption) ?_
    rotate_left
    · intro w hSw; (try dsimp only at hSw); go_simp; try with_reducible rfl
    try simp only [Act.put, List.setIfInBounds_toArray, List.set_cons_zero, List.set_cons_succ]
    refine held_take (i := 6) (v := ?_) rfl (by kernel_rfl) (by kernel_rfl) (by kernel_rfl) (fun _ _ _ h => h) (Or.inl ⟨by rfl, ?_⟩) (by assumption) ?_
    rotate_left
    · intro w hSw; (try dsimp only at hSw); go_simp; try with_reducible rfl
    try simp only [Act.put, List.setIfInBounds_toArray, List.set_cons_zero, List.set_cons_succ]
    refine held_take (i := 7) (v := ?_) rfl (by kernel_rfl) (by kernel_rfl) (by kernel_rfl) (fun _ _ _ h => h) (Or.inl ⟨by rfl, ?_⟩) (by assumption) ?_
    rotate_left
    · intro w hSw; (try dsimp only at hSw); go_simp; try with_reducible rfl
    try simp only [Act.put, List.setIfInBounds_toArray, List.set_cons_zero, List.set_cons_succ]
    refine held_take (i := 8) (v := ?_) rfl (by kernel_rfl) (by kernel_rfl) (by kernel_rfl) (fun _ _ _ h => h) (Or.inl ⟨by rfl, ?_⟩) (by assumption) ?_
    rotate_left
    · intro w hSw; (try dsimp only at hSw); go_simp; try with_reducible rfl
    try simp only [Act.put, List.setIfInBounds_toArray, List.set_cons_zero, List.set_cons_succ]
    refine held_ready (i := 4) rfl (by kernel_rfl) (fun K hK => ?_)
    go_simp
    refine ct.out.mono ?_
    rintro e w3 ⟨v1, rfl, w1, B3⟩
    have c23 := (B3.cell (block_lt_of_cell c2)).trans c2
    have c33 := (B3.cell (block_lt_of_cell c3)).trans c3
    have t23 := t2.out.below B3
    have x1 : Own w3 w.heap.size 5 v1 (u8l p) := w1
    have B03 := B0.out.trans (B3.mono B0.out.size)
    replace w1 := Lib.hid w1
    replace B3 := Lib.hid B3
    replace t23 := Lib.hid t23
    replace x1 := Lib.hid x1
    replace B03 := Lib.hid B03
    refine hK.out _ _ (⟨c23, c33⟩) (fun hHeldN => ?_)
    clear hHeld hK K
    have hHeld := hHeldN
    clear hHeldN
    try simp only [Act.put, List.setIfInBounds_toArray, List.set_cons_zero, List.set_cons_succ]

    refine held_ready (i := 9) rfl (by kernel_rfl) (fun K hK => ?_)
    go_simp
    refine (clone_any w3 two q t23.out l2.out).mono ?_
    rintro e w4 ⟨v2, rfl, w22, B4⟩
    have x2 : Own w4 w.heap.size 5 v2 (u8l q) := w22.weaken (Nat.le_trans B0.out.size (B3.out.size))
    have x14 := x1.out.below B4
    have B04 := B03.out.trans (B4.mono B03.out.size)
    have c24 := (B4.cell (block_lt_of_cell c23)).trans c23
    have c34 := (B4.cell (block_lt_of_cell c33)).trans c33
    replace w22 := Lib.hid w22
    replace B4 := Lib.hid B4
    replace x2 := Lib.hid x2
    replace x14 := Lib.hid x14
    replace B04 := Lib.hid B04
    refine hK.out _ _ (⟨c24, c34⟩) (fun hHeldN => ?_)
    clear hHeld hK K
    have hHeld := hHeldN
    clear hHeldN
    try simp only [Act.put, List.setIfInBounds_toArray, List.set_cons_zero, List.set_cons_succ]
    refine held_take (i := 10) (v := ?_) rfl (by kernel_rfl) (by kernel_rfl) (by kernel_rfl) (fun _ _ _ h => h) (Or.inl ⟨by rfl, ?_⟩) (by assumption) ?_
    rotate_left
    · intro w hSw; (try dsimp only at hSw); go_simp; try with_reducible rfl
    try simp only [Act.put, List.setIfInBounds_toArray, List.set_cons_zero, List.set_cons_succ]
    refine held_take (i := 11) (v := ?_) rfl (by kernel_rfl) (by kernel_rfl) (by kernel_rfl) (fun _ _ _ h => h) (Or.inl ⟨by rfl, ?_⟩) (by assumption) ?_
    rotate_left
    · intro w hSw; (try dsimp only at hSw); go_simp; try with_reducible rfl
    try simp only [Act.put, List.setIfInBounds_toArray, List.set_cons_zero, List.set_cons_succ]
    refine held_take (i := 12) (v := ?_) rfl (by kernel_rfl) (by kernel_rfl) (by kernel_rfl) (fun _ _ _ h => h) (Or.inl ⟨by rfl, ?_⟩) (by assumption) ?_
    rotate_left
    · intro w hSw; (try dsimp only at hSw); go_simp; try with_reducible rfl
    try simp only [Act.put, List.setIfInBounds_toArray, List.set_cons_zero, List.set_cons_succ]
    refine wpAnyH_done (by kernel_rfl) ?_ _
    clear hHeld
    go_wp2_with fail
    go_ret3
    exact ⟨⟨v1, v2, rfl, x14.out, x2.out, t1.out.small, t23.out.small⟩, B04.out⟩

/-! ### A log that is none -/
def LogNot (w : World) (v : Value) : Prop := v = .pointer none ∨ ∃ b, v = .pointer (some ⟨b, 0, none⟩) ∧ w.cell? ⟨b, 0, none⟩ = some (.map none)
set_option maxRecDepth 100000 in
theorem lmade_not {w : World} {v : Value} (h : LogNot w v) : Calls Tryd.prog 81 #[v] w fun e w' => e = .returned (.bool false) ∧ w = w' := by
  have hn := fun (x : World) => run_neq_map_nil (P := Tryd.prog) x 137 74 100 none Tryd.underlying137
  rcases h with rfl | ⟨b, rfl, c0⟩
  · go_enter Tryd.func81, Tryd.ntmps81
    go_wp2_with fail
    go_ret
    exact ⟨rfl, rfl⟩
  · go_enter Tryd.func81, Tryd.ntmps81
    go_wp2_with fail
    go_ret
    exact ⟨rfl, rfl⟩
set_option maxRecDepth 100000 in
theorem lclash_not {w : World} {v : Value} (h : LogNot w v) : Calls Tryd.prog 70 #[v] w fun e w' => e = .returned (.tuple #[.slice none 0 0, .slice none 0 0, .bool false]) ∧ w = w' := by
  have cm := Lib.hid (lmade_not h)
  replace h := Lib.hid h
  go_enter Tryd.func70, Tryd.ntmps70
  go_wp2_with fail
  refine cm.out.mono ?_
  rintro e w2 ⟨rfl, rfl⟩
  go_wp2_with fail
  go_ret3
  exact ⟨rfl, rfl⟩
theorem lsum_st {w : World} {F : Nat → Prop} {b : Nat} {T : List (List Nat)} (h : LogAt w F b T) (v : Value) (t : List Nat) (ht : TextAt w v t) (hl : t.length < 1000000000) (hT : T.length < 1000000000) :
    Calls Tryd.prog 64 #[.pointer (some ⟨b, 0, none⟩), v] w fun e w' => e = .returned (.agg (u8s (sumOf t))) ∧ ∃ F', LogAt w' F' b (addT T t) ∧ (∀ k, F' k → (F k ∨ w.heap.size ≤ k) ∧ k < w'.heap.size) ∧ Upd F w w' := by
  obtain ⟨ao, cap, rfl, h1⟩ := ht.ex
  refine (lsum_any h ao t _ cap rfl ht hl hT).mono ?_
  rintro e w' ⟨rfl, h2, h3⟩
  exact ⟨rfl, _, h2.tight, fun k hk => hk, h3⟩
end Go.Proofs.YtjhfoddhpmmjoaaDoor
namespace Go.Proofs.YtjhfoddhpmmjoaaDoor
set_option maxRecDepth 100000

theorem sum7_0 : (sumOf (List.replicate 512 7))[0]? = some 21 := by decide +kernel
theorem sum8_0 : (sumOf (List.replicate 512 8))[0]? = some 125 := by decide +kernel
theorem sum78 : ¬ sumOf (List.replicate 512 7) = sumOf (List.replicate 512 8) := fun e => by
  have h := sum7_0
  rw [e, sum8_0] at h
  simp at h
end Go.Proofs.YtjhfoddhpmmjoaaDoor
