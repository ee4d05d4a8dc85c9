/-
  Layer 17: 'one': an op of the field and of the reference; they tell alike. Condition: the blocks are their own; the table of math/bits stands in the world.
-/
import Derived.Test.YtjhfoddhpmmjoaaDoorRefE8
namespace Go.Proofs.YtjhfoddhpmmjoaaDoor
set_option maxRecDepth 100000
open Go.RowKit

/-- A field and the reference's, alike. -/
structure Duo (w : World) (b rb rw rm c cl n m : Nat) (L : Nat → Nat) (T : Nat → Ten) : Prop where
  f : FieldAt w b rb rw rm n m L T
  r : RefE w c cl n L T
  a1 : ¬ Four b rb rw rm c
  a2 : ¬ Four b rb rw rm cl
  most : ∀ i, L i ≤ m
/-- All their blocks. -/
def All6 (b rb rw rm c cl : Nat) : Nat → Prop := fun k => Four b rb rw rm k ∨ TwoQ c cl k
section
variable {w w' : World} {b rb rw rm c cl n m m' : Nat} {L L' : Nat → Nat} {T T' : Nat → Ten}
theorem FieldAt.away (h : FieldAt w b rb rw rm n m L T) {S : Nat → Prop} (u : Upd S w w') (hS : ∀ k, Four b rb rw rm k → ¬ S k) : FieldAt w' b rb rw rm n m L T :=
  ⟨h.f.other (u.block _ h.f.lt (hS _ (.inl rfl))), h.r.stay u (hS _ (.inr (.inl rfl))) (hS _ (.inr (.inr (.inl rfl)))) (hS _ (.inr (.inr (.inr rfl)))), h.ne, h.good, h.small⟩
theorem Duo.below (h : Duo w b rb rw rm c cl n m L T) (hB : Below w.heap.size w w') : Duo w' b rb rw rm c cl n m L T := ⟨h.f.below hB, h.r.below hB, h.a1, h.a2, h.most⟩
theorem Duo.drew (h : Duo w b rb rw rm c cl n m L T) : Duo w.drew b rb rw rm c cl n m L T := h.below (Below.refl _ _).drew
theorem Duo.both (h : Duo w b rb rw rm c cl n m L T) {w1 w2 : World} (hf : FieldAt w1 b rb rw rm n m' L' T') (hr : RefE w2 c cl n L' T') (u2 : Upd (TwoQ c cl) w1 w2) (hm : ∀ i, L' i ≤ m + 1) (hmm : m' ≤ m + 1) : Duo w2 b rb rw rm c cl n (m + 1) L' T' :=
  ⟨(hf.away u2 (fun k hk e => by exact e.elim (fun e => h.a1 (e ▸ hk)) (fun e => h.a2 (e ▸ hk)))).mono hmm, hr, h.a1, h.a2, hm⟩
theorem all_four {w w' : World} (hU : Upd (Four b rb rw rm) w w') : Upd (All6 b rb rw rm c cl) w w' := hU.mono fun _ _ e => .inl e
theorem all_two {w w' : World} (hU : Upd (TwoQ c cl) w w') : Upd (All6 b rb rw rm c cl) w w' := hU.mono fun _ _ e => .inr e
theorem most_up {L : Nat → Nat} {m e v : Nat} (h : ∀ i, L i ≤ m) (hv : v ≤ m + 1) : ∀ i, up L e v i ≤ m + 1 := fun i => by
  unfold up; split
  · exact hv
  · exact Nat.le_succ_of_le (h i)
theorem most_hold {n : Nat} (h : ∀ i, L i ≤ m) (e : Nat) : ∀ i, hold1L n L e i ≤ m + 1 := by
  unfold hold1L; split
  · exact most_up h (by have := h e; omega)
  · exact fun i => Nat.le_succ_of_le (h i)
theorem most_claim {n : Nat} (h : ∀ i, L i ≤ m) (t : Int) (e : Nat) : ∀ i, claimL n L T t e i ≤ m + 1 := by
  unfold claimL; split
  · exact most_up h (by have := h e; omega)
  · exact fun i => Nat.le_succ_of_le (h i)
theorem most_drop {n : Nat} (h : ∀ i, L i ≤ m) (t : Int) (e : Nat) : ∀ i, dropL1 n L T t e i ≤ m + 1 := by
  unfold dropL1; split
  · exact most_up h (by have := h e; omega)
  · exact fun i => Nat.le_succ_of_le (h i)
end
def OneSays (b rb rw rm c cl n m : Nat) (w : World) (e : Ending) (w' : World) : Prop :=
  ∃ L' T', e = .returned (.bool true) ∧ Duo w' b rb rw rm c cl n (m + 1) L' T' ∧ Upd (All6 b rb rw rm c cl) w w'
section
variable {w : World} {b rb rw rm c cl n m : Nat} {L : Nat → Nat} {T : Nat → Ten}
set_option maxHeartbeats 4000000 in
theorem one0 (h : Duo w b rb rw rm c cl n m L T) (_hm : m < 1000000) (t a b' : Int) (e : Nat) (_he : e < 4294967296) :
    Calls Tryd.prog 24 #[.pointer (some ⟨b, 0, none⟩), .pointer (some ⟨c, 0, none⟩), .agg #[.int .i64 0, .int .i64 t, .int .i64 a, .int .i64 b', .int .u32 (e : Int)]] w (OneSays b rb rw rm c cl n m w) := by
  obtain ⟨wa, hwa⟩ : ∃ wa, wa = w.alloc (.cells #[.int .i64 0, .int .i64 t, .int .i64 a, .int .i64 b', .int .u32 (e : Int)] 36) := ⟨_, rfl⟩
  have BA : Below w.heap.size w wa := hwa ▸ (Below.refl _ _).alloc (Nat.le_refl _) _
  have h1 := (h.below BA).drew
  have p0 : wa.cell? ⟨w.heap.size, 0, none⟩ = some (.int .i64 0) := by rw [hwa]; simp
  have p1 : wa.cell? ⟨w.heap.size, 1, none⟩ = some (.int .i64 t) := by rw [hwa]; simp
  have p2 : wa.cell? ⟨w.heap.size, 2, none⟩ = some (.int .i64 a) := by rw [hwa]; simp
  have p3 : wa.cell? ⟨w.heap.size, 3, none⟩ = some (.int .i64 b') := by rw [hwa]; simp
  have p4 : wa.cell? ⟨w.heap.size, 4, none⟩ = some (.int .u32 (e : Int)) := by rw [hwa]; simp
  have nF : ¬ All6 b rb rw rm c cl w.heap.size := fun e => by
    rcases e with e | rfl | rfl
    · exact absurd (h.f.lts e) (Nat.lt_irrefl _)
    · exact absurd (lt_of_block h.r.f) (Nat.lt_irrefl _)
    · exact absurd (lt_of_block h.r.ints) (Nat.lt_irrefl _)
  have hlt : w.heap.size < wa.heap.size := by rw [hwa]; simp
  have UA : Upd (All6 b rb rw rm c cl) w wa.drew := (Upd.of_below BA).drew
  have cf := eadmit_any h1.f t a b'
  have cr := fun x (hx : RefE x c cl n L T) => qadmit_any hx t a b'
  have S2 := fun (u : World) (U : Upd (All6 b rb rw rm c cl) wa.drew u) => (⟨(U.cell (p := ⟨w.heap.size, 1, none⟩) hlt nF).trans p1, (U.cell (p := ⟨w.heap.size, 2, none⟩) hlt nF).trans p2, (U.cell (p := ⟨w.heap.size, 3, none⟩) hlt nF).trans p3⟩ : (fun w' => w'.cell? ⟨w.heap.size, 1, none⟩ = some (.int .i64 t) ∧ w'.cell? ⟨w.heap.size, 2, none⟩ = some (.int .i64 a) ∧ w'.cell? ⟨w.heap.size, 3, none⟩ = some (.int .i64 b')) u)
  have hmost := fun i => Nat.le_succ_of_le (h.most i)
  replace BA := Lib.hid BA
  replace h1 := Lib.hid h1
  replace h := Lib.hid h
  replace hwa := Lib.hid hwa
  replace cf := Lib.hid cf
  replace cr := Lib.hid cr
  replace S2 := Lib.hid S2
  replace UA := Lib.hid UA
  replace hmost := Lib.hid hmost
  go_enter Tryd.func24, Tryd.ntmps24
  go_wp2_with fail
  rw [← hwa.out]
  go_wp2_with fail
  refine wp_region_held_drew (S := (fun w' => w'.cell? ⟨w.heap.size, 1, none⟩ = some (.int .i64 t) ∧ w'.cell? ⟨w.heap.size, 2, none⟩ = some (.int .i64 a) ∧ w'.cell? ⟨w.heap.size, 3, none⟩ = some (.int .i64 b'))) (by kernel_rfl) (⟨p1, p2, p3⟩) (fun hHeld => ?_)
  refine held_take (i := 0) (v := ?_) rfl (by kernel_rfl) (by kernel_rfl) (by kernel_rfl) (fun _ _ _ h => h) (Or.inl ⟨by rfl, ?_⟩) (by assumption) ?_
  rotate_left
  · intro w hSw; (try dsimp only at hSw); go_simp; try with_reducible rfl
  try simp only [Act.put, List.setIfInBounds_toArray, List.set_cons_zero, List.set_cons_succ]
  refine held_take (i := 1) (v := ?_) rfl (by kernel_rfl) (by kernel_rfl) (by kernel_rfl) (fun _ _ _ h => h) (Or.inl ⟨by rfl, ?_⟩) (by assumption) ?_
  rotate_left
  · intro w hSw; (try dsimp only at hSw); go_simp; try with_reducible rfl
  try simp only [Act.put, List.setIfInBounds_toArray, List.set_cons_zero, List.set_cons_succ]
  refine held_take (i := 2) (v := ?_) rfl (by kernel_rfl) (by kernel_rfl) (by kernel_rfl) (fun _ _ _ h => h) (Or.inl ⟨by rfl, ?_⟩) (by assumption) ?_
  rotate_left
  · intro w hSw; (try dsimp only at hSw); go_simp; try with_reducible rfl
  try simp only [Act.put, List.setIfInBounds_toArray, List.set_cons_zero, List.set_cons_succ]
  refine held_take (i := 3) (v := ?_) rfl (by kernel_rfl) (by kernel_rfl) (by kernel_rfl) (fun _ _ _ h => h) (Or.inl ⟨by rfl, ?_⟩) (by assumption) ?_
  rotate_left
  · intro w hSw; (try dsimp only at hSw); go_simp; try with_reducible rfl
  try simp only [Act.put, List.setIfInBounds_toArray, List.set_cons_zero, List.set_cons_succ]
  refine held_take (i := 4) (v := ?_) rfl (by kernel_rfl) (by kernel_rfl) (by kernel_rfl) (fun _ _ _ h => h) (Or.inl ⟨by rfl, ?_⟩) (by assumption) ?_
  rotate_left
  · intro w hSw; (try dsimp only at hSw); go_simp; try with_reducible rfl
  try simp only [Act.put, List.setIfInBounds_toArray, List.set_cons_zero, List.set_cons_succ]
  refine held_take (i := 5) (v := ?_) rfl (by kernel_rfl) (by kernel_rfl) (by kernel_rfl) (fun _ _ _ h => h) (Or.inl ⟨by rfl, ?_⟩) (by assumption) ?_
  rotate_left
  · intro w hSw; (try dsimp only at hSw); go_simp; try with_reducible rfl
  try simp only [Act.put, List.setIfInBounds_toArray, List.set_cons_zero, List.set_cons_succ]
  refine held_take (i := 6) (v := ?_) rfl (by kernel_rfl) (by kernel_rfl) (by kernel_rfl) (fun _ _ _ h => h) (Or.inl ⟨by rfl, ?_⟩) (by assumption) ?_
  rotate_left
  · intro w hSw; (try dsimp only at hSw); go_simp; try with_reducible rfl
  try simp only [Act.put, List.setIfInBounds_toArray, List.set_cons_zero, List.set_cons_succ]
  refine held_take (i := 8) (v := ?_) rfl (by kernel_rfl) (by kernel_rfl) (by kernel_rfl) (fun _ _ _ h => h) (Or.inl ⟨by rfl, ?_⟩) (by assumption) ?_
  rotate_left
  · intro w hSw; (try dsimp only at hSw); go_simp; try with_reducible rfl
  try simp only [Act.put, List.setIfInBounds_toArray, List.set_cons_zero, List.set_cons_succ]
  refine held_take (i := 9) (v := ?_) rfl (by kernel_rfl) (by kernel_rfl) (by kernel_rfl) (fun _ _ _ h => h) (Or.inl ⟨by rfl, ?_⟩) (by assumption) ?_
  rotate_left
  · intro w hSw; (try dsimp only at hSw); go_simp; try with_reducible rfl
  try simp only [Act.put, List.setIfInBounds_toArray, List.set_cons_zero, List.set_cons_succ]
  refine held_take (i := 10) (v := ?_) rfl (by kernel_rfl) (by kernel_rfl) (by kernel_rfl) (fun _ _ _ h => h) (Or.inl ⟨by rfl, ?_⟩) (by assumption) ?_
  rotate_left
  · intro w hSw; (try dsimp only at hSw); go_simp; try with_reducible rfl
  try simp only [Act.put, List.setIfInBounds_toArray, List.set_cons_zero, List.set_cons_succ]
  refine held_take (i := 11) (v := ?_) rfl (by kernel_rfl) (by kernel_rfl) (by kernel_rfl) (fun _ _ _ h => h) (Or.inl ⟨by rfl, ?_⟩) (by assumption) ?_
  rotate_left
  · intro w hSw; (try dsimp only at hSw); go_simp; try with_reducible rfl
  try simp only [Act.put, List.setIfInBounds_toArray, List.set_cons_zero, List.set_cons_succ]
  refine held_take (i := 12) (v := ?_) rfl (by kernel_rfl) (by kernel_rfl) (by kernel_rfl) (fun _ _ _ h => h) (Or.inl ⟨by rfl, ?_⟩) (by assumption) ?_
  rotate_left
  · intro w hSw; (try dsimp only at hSw); go_simp; try with_reducible rfl
  try simp only [Act.put, List.setIfInBounds_toArray, List.set_cons_zero, List.set_cons_succ]
  refine held_take (i := 13) (v := ?_) rfl (by kernel_rfl) (by kernel_rfl) (by kernel_rfl) (fun _ _ _ h => h) (Or.inl ⟨by rfl, ?_⟩) (by assumption) ?_
  rotate_left
  · intro w hSw; (try dsimp only at hSw); go_simp; try with_reducible rfl
  try simp only [Act.put, List.setIfInBounds_toArray, List.set_cons_zero, List.set_cons_succ]
  refine held_take (i := 14) (v := ?_) rfl (by kernel_rfl) (by kernel_rfl) (by kernel_rfl) (fun _ _ _ h => h) (Or.inl ⟨by rfl, ?_⟩) (by assumption) ?_
  rotate_left
  · intro w hSw; (try dsimp only at hSw); go_simp; try with_reducible rfl
  try simp only [Act.put, List.setIfInBounds_toArray, List.set_cons_zero, List.set_cons_succ]
  refine held_ready (i := 7) rfl (by kernel_rfl) (fun K hK => ?_)
  go_simp
  refine cf.out.mono ?_
  rintro e2 w2 ⟨rfl, F2, U2⟩
  have UU := all_four (c := c) (cl := cl) U2
  have R2 := h1.out.r.stay U2 h.out.a1 h.out.a2
  have S3 := S2.out w2 UU
  have c2 := cr.out _ R2
  clear cf U2 cr R2
  replace F2 := Lib.hid F2
  replace UU := Lib.hid UU
  replace c2 := Lib.hid c2
  refine hK.out _ _ (S3) (fun hHeldN => ?_)
  clear hHeld hK K
  have hHeld := hHeldN
  clear hHeldN
  try simp only [Act.put, List.setIfInBounds_toArray, List.set_cons_zero, List.set_cons_succ]
  refine held_ready (i := 15) rfl (by kernel_rfl) (fun K hK => ?_)
  go_simp
  refine c2.out.mono ?_
  rintro e3 w3 ⟨rfl, R3, U3⟩
  have UV := UU.out.trans (all_two (b := b) (rb := rb) (rw := rw) (rm := rm) U3) (fun _ _ e => e)
  have D := h.out.both F2.out R3 U3 hmost.out (Nat.le_succ m)
  have S4 := S2.out w3 UV
  have UW := UA.out.trans UV (fun _ _ e => e)
  clear F2 UU c2 R3 U3 UV S3
  replace D := Lib.hid D
  replace UW := Lib.hid UW
  refine hK.out _ _ (S4) (fun hHeldN => ?_)
  clear hHeld hK K
  have hHeld := hHeldN
  clear hHeldN
  try simp only [Act.put, List.setIfInBounds_toArray, List.set_cons_zero, List.set_cons_succ]
  refine held_take (i := 16) (v := ?_) rfl (by kernel_rfl) (by kernel_rfl) (by kernel_rfl) (fun _ _ _ h => h) (Or.inl ⟨by rfl, ?_⟩) (by assumption) ?_
  rotate_left
  · intro w hSw; (try dsimp only at hSw); go_simp; try with_reducible rfl
  try simp only [Act.put, List.setIfInBounds_toArray, List.set_cons_zero, List.set_cons_succ]
  refine held_take (i := 17) (v := ?_) rfl (by kernel_rfl) (by kernel_rfl) (by kernel_rfl) (fun _ _ _ h => h) (Or.inl ⟨by rfl, ?_⟩) (by assumption) ?_
  rotate_left
  · intro w hSw; (try dsimp only at hSw); go_simp; try with_reducible rfl
  try simp only [Act.put, List.setIfInBounds_toArray, List.set_cons_zero, List.set_cons_succ]
  refine wpAnyH_done (by kernel_rfl) ?_ _
  clear hHeld
  go_wp2_with fail
  go_ret
  exact ⟨_, _, rfl, D.out, UW.out⟩
set_option maxHeartbeats 4000000 in
theorem one1 (h : Duo w b rb rw rm c cl n m L T) (_hm : m < 1000000) (t a b' : Int) (e : Nat) (_he : e < 4294967296) :
    Calls Tryd.prog 24 #[.pointer (some ⟨b, 0, none⟩), .pointer (some ⟨c, 0, none⟩), .agg #[.int .i64 1, .int .i64 t, .int .i64 a, .int .i64 b', .int .u32 (e : Int)]] w (OneSays b rb rw rm c cl n m w) := by
  obtain ⟨wa, hwa⟩ : ∃ wa, wa = w.alloc (.cells #[.int .i64 1, .int .i64 t, .int .i64 a, .int .i64 b', .int .u32 (e : Int)] 36) := ⟨_, rfl⟩
  have BA : Below w.heap.size w wa := hwa ▸ (Below.refl _ _).alloc (Nat.le_refl _) _
  have h1 := (h.below BA).drew
  have p0 : wa.cell? ⟨w.heap.size, 0, none⟩ = some (.int .i64 1) := by rw [hwa]; simp
  have p1 : wa.cell? ⟨w.heap.size, 1, none⟩ = some (.int .i64 t) := by rw [hwa]; simp
  have p2 : wa.cell? ⟨w.heap.size, 2, none⟩ = some (.int .i64 a) := by rw [hwa]; simp
  have p3 : wa.cell? ⟨w.heap.size, 3, none⟩ = some (.int .i64 b') := by rw [hwa]; simp
  have p4 : wa.cell? ⟨w.heap.size, 4, none⟩ = some (.int .u32 (e : Int)) := by rw [hwa]; simp
  have nF : ¬ All6 b rb rw rm c cl w.heap.size := fun e => by
    rcases e with e | rfl | rfl
    · exact absurd (h.f.lts e) (Nat.lt_irrefl _)
    · exact absurd (lt_of_block h.r.f) (Nat.lt_irrefl _)
    · exact absurd (lt_of_block h.r.ints) (Nat.lt_irrefl _)
  have hlt : w.heap.size < wa.heap.size := by rw [hwa]; simp
  have UA : Upd (All6 b rb rw rm c cl) w wa.drew := (Upd.of_below BA).drew
  have cf := eresize_any h1.f t a b'
  have cr := fun x (hx : RefE x c cl n L T) => qresize_any hx t a b'
  have S2 := fun (u : World) (U : Upd (All6 b rb rw rm c cl) wa.drew u) => (⟨(U.cell (p := ⟨w.heap.size, 1, none⟩) hlt nF).trans p1, (U.cell (p := ⟨w.heap.size, 2, none⟩) hlt nF).trans p2, (U.cell (p := ⟨w.heap.size, 3, none⟩) hlt nF).trans p3⟩ : (fun w' => w'.cell? ⟨w.heap.size, 1, none⟩ = some (.int .i64 t) ∧ w'.cell? ⟨w.heap.size, 2, none⟩ = some (.int .i64 a) ∧ w'.cell? ⟨w.heap.size, 3, none⟩ = some (.int .i64 b')) u)
  have hmost := fun i => Nat.le_succ_of_le (h.most i)
  replace BA := Lib.hid BA
  replace h1 := Lib.hid h1
  replace h := Lib.hid h
  replace hwa := Lib.hid hwa
  replace cf := Lib.hid cf
  replace cr := Lib.hid cr
  replace S2 := Lib.hid S2
  replace UA := Lib.hid UA
  replace hmost := Lib.hid hmost
  go_enter Tryd.func24, Tryd.ntmps24
  go_wp2_with fail
  rw [← hwa.out]
  go_wp2_with fail
  refine wp_region_held_drew (S := (fun w' => w'.cell? ⟨w.heap.size, 1, none⟩ = some (.int .i64 t) ∧ w'.cell? ⟨w.heap.size, 2, none⟩ = some (.int .i64 a) ∧ w'.cell? ⟨w.heap.size, 3, none⟩ = some (.int .i64 b'))) (by kernel_rfl) (⟨p1, p2, p3⟩) (fun hHeld => ?_)
  refine held_take (i := 0) (v := ?_) rfl (by kernel_rfl) (by kernel_rfl) (by kernel_rfl) (fun _ _ _ h => h) (Or.inl ⟨by rfl, ?_⟩) (by assumption) ?_
  rotate_left
  · intro w hSw; (try dsimp only at hSw); go_simp; try with_reducible rfl
  try simp only [Act.put, List.setIfInBounds_toArray, List.set_cons_zero, List.set_cons_succ]
  refine held_take (i := 1) (v := ?_) rfl (by kernel_rfl) (by kernel_rfl) (by kernel_rfl) (fun _ _ _ h => h) (Or.inl ⟨by rfl, ?_⟩) (by assumption) ?_
  rotate_left
  · intro w hSw; (try dsimp only at hSw); go_simp; try with_reducible rfl
  try simp only [Act.put, List.setIfInBounds_toArray, List.set_cons_zero, List.set_cons_succ]
  refine held_take (i := 2) (v := ?_) rfl (by kernel_rfl) (by kernel_rfl) (by kernel_rfl) (fun _ _ _ h => h) (Or.inl ⟨by rfl, ?_⟩) (by assumption) ?_
  rotate_left
  · intro w hSw; (try dsimp only at hSw); go_simp; try with_reducible rfl
  try simp only [Act.put, List.setIfInBounds_toArray, List.set_cons_zero, List.set_cons_succ]
  refine held_take (i := 3) (v := ?_) rfl (by kernel_rfl) (by kernel_rfl) (by kernel_rfl) (fun _ _ _ h => h) (Or.inl ⟨by rfl, ?_⟩) (by assumption) ?_
  rotate_left
  · intro w hSw; (try dsimp only at hSw); go_simp; try with_reducible rfl
  try simp only [Act.put, List.setIfInBounds_toArray, List.set_cons_zero, List.set_cons_succ]
  refine held_take (i := 4) (v := ?_) rfl (by kernel_rfl) (by kernel_rfl) (by kernel_rfl) (fun _ _ _ h => h) (Or.inl ⟨by rfl, ?_⟩) (by assumption) ?_
  rotate_left
  · intro w hSw; (try dsimp only at hSw); go_simp; try with_reducible rfl
  try simp only [Act.put, List.setIfInBounds_toArray, List.set_cons_zero, List.set_cons_succ]
  refine held_take (i := 5) (v := ?_) rfl (by kernel_rfl) (by kernel_rfl) (by kernel_rfl) (fun _ _ _ h => h) (Or.inl ⟨by rfl, ?_⟩) (by assumption) ?_
  rotate_left
  · intro w hSw; (try dsimp only at hSw); go_simp; try with_reducible rfl
  try simp only [Act.put, List.setIfInBounds_toArray, List.set_cons_zero, List.set_cons_succ]
  refine held_take (i := 6) (v := ?_) rfl (by kernel_rfl) (by kernel_rfl) (by kernel_rfl) (fun _ _ _ h => h) (Or.inl ⟨by rfl, ?_⟩) (by assumption) ?_
  rotate_left
  · intro w hSw; (try dsimp only at hSw); go_simp; try with_reducible rfl
  try simp only [Act.put, List.setIfInBounds_toArray, List.set_cons_zero, List.set_cons_succ]
  refine held_take (i := 8) (v := ?_) rfl (by kernel_rfl) (by kernel_rfl) (by kernel_rfl) (fun _ _ _ h => h) (Or.inl ⟨by rfl, ?_⟩) (by assumption) ?_
  rotate_left
  · intro w hSw; (try dsimp only at hSw); go_simp; try with_reducible rfl
  try simp only [Act.put, List.setIfInBounds_toArray, List.set_cons_zero, List.set_cons_succ]
  refine held_take (i := 9) (v := ?_) rfl (by kernel_rfl) (by kernel_rfl) (by kernel_rfl) (fun _ _ _ h => h) (Or.inl ⟨by rfl, ?_⟩) (by assumption) ?_
  rotate_left
  · intro w hSw; (try dsimp only at hSw); go_simp; try with_reducible rfl
  try simp only [Act.put, List.setIfInBounds_toArray, List.set_cons_zero, List.set_cons_succ]
  refine held_take (i := 10) (v := ?_) rfl (by kernel_rfl) (by kernel_rfl) (by kernel_rfl) (fun _ _ _ h => h) (Or.inl ⟨by rfl, ?_⟩) (by assumption) ?_
  rotate_left
  · intro w hSw; (try dsimp only at hSw); go_simp; try with_reducible rfl
  try simp only [Act.put, List.setIfInBounds_toArray, List.set_cons_zero, List.set_cons_succ]
  refine held_take (i := 11) (v := ?_) rfl (by kernel_rfl) (by kernel_rfl) (by kernel_rfl) (fun _ _ _ h => h) (Or.inl ⟨by rfl, ?_⟩) (by assumption) ?_
  rotate_left
  · intro w hSw; (try dsimp only at hSw); go_simp; try with_reducible rfl
  try simp only [Act.put, List.setIfInBounds_toArray, List.set_cons_zero, List.set_cons_succ]
  refine held_take (i := 12) (v := ?_) rfl (by kernel_rfl) (by kernel_rfl) (by kernel_rfl) (fun _ _ _ h => h) (Or.inl ⟨by rfl, ?_⟩) (by assumption) ?_
  rotate_left
  · intro w hSw; (try dsimp only at hSw); go_simp; try with_reducible rfl
  try simp only [Act.put, List.setIfInBounds_toArray, List.set_cons_zero, List.set_cons_succ]
  refine held_take (i := 13) (v := ?_) rfl (by kernel_rfl) (by kernel_rfl) (by kernel_rfl) (fun _ _ _ h => h) (Or.inl ⟨by rfl, ?_⟩) (by assumption) ?_
  rotate_left
  · intro w hSw; (try dsimp only at hSw); go_simp; try with_reducible rfl
  try simp only [Act.put, List.setIfInBounds_toArray, List.set_cons_zero, List.set_cons_succ]
  refine held_take (i := 14) (v := ?_) rfl (by kernel_rfl) (by kernel_rfl) (by kernel_rfl) (fun _ _ _ h => h) (Or.inl ⟨by rfl, ?_⟩) (by assumption) ?_
  rotate_left
  · intro w hSw; (try dsimp only at hSw); go_simp; try with_reducible rfl
  try simp only [Act.put, List.setIfInBounds_toArray, List.set_cons_zero, List.set_cons_succ]
  refine held_ready (i := 7) rfl (by kernel_rfl) (fun K hK => ?_)
  go_simp
  refine cf.out.mono ?_
  rintro e2 w2 ⟨rfl, F2, U2⟩
  have UU := all_four (c := c) (cl := cl) U2
  have R2 := h1.out.r.stay U2 h.out.a1 h.out.a2
  have S3 := S2.out w2 UU
  have c2 := cr.out _ R2
  clear cf U2 cr R2
  replace F2 := Lib.hid F2
  replace UU := Lib.hid UU
  replace c2 := Lib.hid c2
  refine hK.out _ _ (S3) (fun hHeldN => ?_)
  clear hHeld hK K
  have hHeld := hHeldN
  clear hHeldN
  try simp only [Act.put, List.setIfInBounds_toArray, List.set_cons_zero, List.set_cons_succ]
  refine held_ready (i := 15) rfl (by kernel_rfl) (fun K hK => ?_)
  go_simp
  refine c2.out.mono ?_
  rintro e3 w3 ⟨rfl, R3, U3⟩
  have UV := UU.out.trans (all_two (b := b) (rb := rb) (rw := rw) (rm := rm) U3) (fun _ _ e => e)
  have D := h.out.both F2.out R3 U3 hmost.out (Nat.le_succ m)
  have S4 := S2.out w3 UV
  have UW := UA.out.trans UV (fun _ _ e => e)
  clear F2 UU c2 R3 U3 UV S3
  replace D := Lib.hid D
  replace UW := Lib.hid UW
  refine hK.out _ _ (S4) (fun hHeldN => ?_)
  clear hHeld hK K
  have hHeld := hHeldN
  clear hHeldN
  try simp only [Act.put, List.setIfInBounds_toArray, List.set_cons_zero, List.set_cons_succ]
  refine held_take (i := 16) (v := ?_) rfl (by kernel_rfl) (by kernel_rfl) (by kernel_rfl) (fun _ _ _ h => h) (Or.inl ⟨by rfl, ?_⟩) (by assumption) ?_
  rotate_left
  · intro w hSw; (try dsimp only at hSw); go_simp; try with_reducible rfl
  try simp only [Act.put, List.setIfInBounds_toArray, List.set_cons_zero, List.set_cons_succ]
  refine held_take (i := 17) (v := ?_) rfl (by kernel_rfl) (by kernel_rfl) (by kernel_rfl) (fun _ _ _ h => h) (Or.inl ⟨by rfl, ?_⟩) (by assumption) ?_
  rotate_left
  · intro w hSw; (try dsimp only at hSw); go_simp; try with_reducible rfl
  try simp only [Act.put, List.setIfInBounds_toArray, List.set_cons_zero, List.set_cons_succ]
  refine wpAnyH_done (by kernel_rfl) ?_ _
  clear hHeld
  go_wp2_with fail
  go_ret
  exact ⟨_, _, rfl, D.out, UW.out⟩
set_option maxHeartbeats 4000000 in
theorem one2 (h : Duo w b rb rw rm c cl n m L T) (_hm : m < 1000000) (t a b' : Int) (e : Nat) (_he : e < 4294967296) :
    Calls Tryd.prog 24 #[.pointer (some ⟨b, 0, none⟩), .pointer (some ⟨c, 0, none⟩), .agg #[.int .i64 2, .int .i64 t, .int .i64 a, .int .i64 b', .int .u32 (e : Int)]] w (OneSays b rb rw rm c cl n m w) := by
  obtain ⟨wa, hwa⟩ : ∃ wa, wa = w.alloc (.cells #[.int .i64 2, .int .i64 t, .int .i64 a, .int .i64 b', .int .u32 (e : Int)] 36) := ⟨_, rfl⟩
  have BA : Below w.heap.size w wa := hwa ▸ (Below.refl _ _).alloc (Nat.le_refl _) _
  have h1 := (h.below BA).drew
  have p0 : wa.cell? ⟨w.heap.size, 0, none⟩ = some (.int .i64 2) := by rw [hwa]; simp
  have p1 : wa.cell? ⟨w.heap.size, 1, none⟩ = some (.int .i64 t) := by rw [hwa]; simp
  have p2 : wa.cell? ⟨w.heap.size, 2, none⟩ = some (.int .i64 a) := by rw [hwa]; simp
  have p3 : wa.cell? ⟨w.heap.size, 3, none⟩ = some (.int .i64 b') := by rw [hwa]; simp
  have p4 : wa.cell? ⟨w.heap.size, 4, none⟩ = some (.int .u32 (e : Int)) := by rw [hwa]; simp
  have nF : ¬ All6 b rb rw rm c cl w.heap.size := fun e => by
    rcases e with e | rfl | rfl
    · exact absurd (h.f.lts e) (Nat.lt_irrefl _)
    · exact absurd (lt_of_block h.r.f) (Nat.lt_irrefl _)
    · exact absurd (lt_of_block h.r.ints) (Nat.lt_irrefl _)
  have hlt : w.heap.size < wa.heap.size := by rw [hwa]; simp
  have UA : Upd (All6 b rb rw rm c cl) w wa.drew := (Upd.of_below BA).drew
  have cf := eremove_any h1.f t
  have cr := fun x (hx : RefE x c cl n L T) => qremove_any hx t
  have S2 := fun (u : World) (U : Upd (All6 b rb rw rm c cl) wa.drew u) => ((U.cell (p := ⟨w.heap.size, 1, none⟩) hlt nF).trans p1 : (fun w' => w'.cell? ⟨w.heap.size, 1, none⟩ = some (.int .i64 t)) u)
  have hmost := fun i => Nat.le_succ_of_le (h.most i)
  replace BA := Lib.hid BA
  replace h1 := Lib.hid h1
  replace h := Lib.hid h
  replace hwa := Lib.hid hwa
  replace cf := Lib.hid cf
  replace cr := Lib.hid cr
  replace S2 := Lib.hid S2
  replace UA := Lib.hid UA
  replace hmost := Lib.hid hmost
  go_enter Tryd.func24, Tryd.ntmps24
  go_wp2_with fail
  rw [← hwa.out]
  go_wp2_with fail
  refine wp_region_held_drew (S := (fun w' => w'.cell? ⟨w.heap.size, 1, none⟩ = some (.int .i64 t))) (by kernel_rfl) (p1) (fun hHeld => ?_)
  refine held_take (i := 0) (v := ?_) rfl (by kernel_rfl) (by kernel_rfl) (by kernel_rfl) (fun _ _ _ h => h) (Or.inl ⟨by rfl, ?_⟩) (by assumption) ?_
  rotate_left
  · intro w hSw; (try dsimp only at hSw); go_simp; try with_reducible rfl
  try simp only [Act.put, List.setIfInBounds_toArray, List.set_cons_zero, List.set_cons_succ]
  refine held_take (i := 1) (v := ?_) rfl (by kernel_rfl) (by kernel_rfl) (by kernel_rfl) (fun _ _ _ h => h) (Or.inl ⟨by rfl, ?_⟩) (by assumption) ?_
  rotate_left
  · intro w hSw; (try dsimp only at hSw); go_simp; try with_reducible rfl
  try simp only [Act.put, List.setIfInBounds_toArray, List.set_cons_zero, List.set_cons_succ]
  refine held_take (i := 2) (v := ?_) rfl (by kernel_rfl) (by kernel_rfl) (by kernel_rfl) (fun _ _ _ h => h) (Or.inl ⟨by rfl, ?_⟩) (by assumption) ?_
  rotate_left
  · intro w hSw; (try dsimp only at hSw); go_simp; try with_reducible rfl
  try simp only [Act.put, List.setIfInBounds_toArray, List.set_cons_zero, List.set_cons_succ]
  refine held_take (i := 4) (v := ?_) rfl (by kernel_rfl) (by kernel_rfl) (by kernel_rfl) (fun _ _ _ h => h) (Or.inl ⟨by rfl, ?_⟩) (by assumption) ?_
  rotate_left
  · intro w hSw; (try dsimp only at hSw); go_simp; try with_reducible rfl
  try simp only [Act.put, List.setIfInBounds_toArray, List.set_cons_zero, List.set_cons_succ]
  refine held_take (i := 5) (v := ?_) rfl (by kernel_rfl) (by kernel_rfl) (by kernel_rfl) (fun _ _ _ h => h) (Or.inl ⟨by rfl, ?_⟩) (by assumption) ?_
  rotate_left
  · intro w hSw; (try dsimp only at hSw); go_simp; try with_reducible rfl
  try simp only [Act.put, List.setIfInBounds_toArray, List.set_cons_zero, List.set_cons_succ]
  refine held_take (i := 6) (v := ?_) rfl (by kernel_rfl) (by kernel_rfl) (by kernel_rfl) (fun _ _ _ h => h) (Or.inl ⟨by rfl, ?_⟩) (by assumption) ?_
  rotate_left
  · intro w hSw; (try dsimp only at hSw); go_simp; try with_reducible rfl
  try simp only [Act.put, List.setIfInBounds_toArray, List.set_cons_zero, List.set_cons_succ]
  refine held_ready (i := 3) rfl (by kernel_rfl) (fun K hK => ?_)
  go_simp
  refine cf.out.mono ?_
  rintro e2 w2 ⟨rfl, F2, U2⟩
  have UU := all_four (c := c) (cl := cl) U2
  have R2 := h1.out.r.stay U2 h.out.a1 h.out.a2
  have S3 := S2.out w2 UU
  have c2 := cr.out _ R2
  clear cf U2 cr R2
  replace F2 := Lib.hid F2
  replace UU := Lib.hid UU
  replace c2 := Lib.hid c2
  refine hK.out _ _ (S3) (fun hHeldN => ?_)
  clear hHeld hK K
  have hHeld := hHeldN
  clear hHeldN
  try simp only [Act.put, List.setIfInBounds_toArray, List.set_cons_zero, List.set_cons_succ]
  refine held_ready (i := 7) rfl (by kernel_rfl) (fun K hK => ?_)
  go_simp
  refine c2.out.mono ?_
  rintro e3 w3 ⟨rfl, R3, U3⟩
  have UV := UU.out.trans (all_two (b := b) (rb := rb) (rw := rw) (rm := rm) U3) (fun _ _ e => e)
  have D := h.out.both F2.out R3 U3 hmost.out (Nat.le_succ m)
  have S4 := S2.out w3 UV
  have UW := UA.out.trans UV (fun _ _ e => e)
  clear F2 UU c2 R3 U3 UV S3
  replace D := Lib.hid D
  replace UW := Lib.hid UW
  refine hK.out _ _ (S4) (fun hHeldN => ?_)
  clear hHeld hK K
  have hHeld := hHeldN
  clear hHeldN
  try simp only [Act.put, List.setIfInBounds_toArray, List.set_cons_zero, List.set_cons_succ]
  refine held_take (i := 8) (v := ?_) rfl (by kernel_rfl) (by kernel_rfl) (by kernel_rfl) (fun _ _ _ h => h) (Or.inl ⟨by rfl, ?_⟩) (by assumption) ?_
  rotate_left
  · intro w hSw; (try dsimp only at hSw); go_simp; try with_reducible rfl
  try simp only [Act.put, List.setIfInBounds_toArray, List.set_cons_zero, List.set_cons_succ]
  refine held_take (i := 9) (v := ?_) rfl (by kernel_rfl) (by kernel_rfl) (by kernel_rfl) (fun _ _ _ h => h) (Or.inl ⟨by rfl, ?_⟩) (by assumption) ?_
  rotate_left
  · intro w hSw; (try dsimp only at hSw); go_simp; try with_reducible rfl
  try simp only [Act.put, List.setIfInBounds_toArray, List.set_cons_zero, List.set_cons_succ]
  refine wpAnyH_done (by kernel_rfl) ?_ _
  clear hHeld
  go_wp2_with fail
  go_ret
  exact ⟨_, _, rfl, D.out, UW.out⟩
set_option maxHeartbeats 4000000 in
theorem one4 (h : Duo w b rb rw rm c cl n m L T) (hm : m < 1000000) (t a b' : Int) (e : Nat) (he : e < 4294967296) :
    Calls Tryd.prog 24 #[.pointer (some ⟨b, 0, none⟩), .pointer (some ⟨c, 0, none⟩), .agg #[.int .i64 4, .int .i64 t, .int .i64 a, .int .i64 b', .int .u32 (e : Int)]] w (OneSays b rb rw rm c cl n m w) := by
  obtain ⟨wa, hwa⟩ : ∃ wa, wa = w.alloc (.cells #[.int .i64 4, .int .i64 t, .int .i64 a, .int .i64 b', .int .u32 (e : Int)] 36) := ⟨_, rfl⟩
  have BA : Below w.heap.size w wa := hwa ▸ (Below.refl _ _).alloc (Nat.le_refl _) _
  have h1 := (h.below BA).drew
  have p0 : wa.cell? ⟨w.heap.size, 0, none⟩ = some (.int .i64 4) := by rw [hwa]; simp
  have p1 : wa.cell? ⟨w.heap.size, 1, none⟩ = some (.int .i64 t) := by rw [hwa]; simp
  have p2 : wa.cell? ⟨w.heap.size, 2, none⟩ = some (.int .i64 a) := by rw [hwa]; simp
  have p3 : wa.cell? ⟨w.heap.size, 3, none⟩ = some (.int .i64 b') := by rw [hwa]; simp
  have p4 : wa.cell? ⟨w.heap.size, 4, none⟩ = some (.int .u32 (e : Int)) := by rw [hwa]; simp
  have nF : ¬ All6 b rb rw rm c cl w.heap.size := fun e => by
    rcases e with e | rfl | rfl
    · exact absurd (h.f.lts e) (Nat.lt_irrefl _)
    · exact absurd (lt_of_block h.r.f) (Nat.lt_irrefl _)
    · exact absurd (lt_of_block h.r.ints) (Nat.lt_irrefl _)
  have hlt : w.heap.size < wa.heap.size := by rw [hwa]; simp
  have UA : Upd (All6 b rb rw rm c cl) w wa.drew := (Upd.of_below BA).drew
  have cf := eclaim_any h1.f (by omega) t e he
  have cr := fun x (hx : RefE x c cl n L T) => qclaim_any hx t e he (by have := h.most e; omega)
  have S2 := fun (u : World) (U : Upd (All6 b rb rw rm c cl) wa.drew u) => (⟨(U.cell (p := ⟨w.heap.size, 1, none⟩) hlt nF).trans p1, (U.cell (p := ⟨w.heap.size, 4, none⟩) hlt nF).trans p4⟩ : (fun w' => w'.cell? ⟨w.heap.size, 1, none⟩ = some (.int .i64 t) ∧ w'.cell? ⟨w.heap.size, 4, none⟩ = some (.int .u32 (e : Int))) u)
  have hmost := most_claim (n := n) (T := T) h.most t e
  replace BA := Lib.hid BA
  replace h1 := Lib.hid h1
  replace h := Lib.hid h
  replace hwa := Lib.hid hwa
  replace cf := Lib.hid cf
  replace cr := Lib.hid cr
  replace S2 := Lib.hid S2
  replace UA := Lib.hid UA
  replace hmost := Lib.hid hmost
  go_enter Tryd.func24, Tryd.ntmps24
  go_wp2_with fail
  rw [← hwa.out]
  go_wp2_with fail
  refine wp_region_held_drew (S := (fun w' => w'.cell? ⟨w.heap.size, 1, none⟩ = some (.int .i64 t) ∧ w'.cell? ⟨w.heap.size, 4, none⟩ = some (.int .u32 (e : Int)))) (by kernel_rfl) (⟨p1, p4⟩) (fun hHeld => ?_)
  refine held_take (i := 0) (v := ?_) rfl (by kernel_rfl) (by kernel_rfl) (by kernel_rfl) (fun _ _ _ h => h) (Or.inl ⟨by rfl, ?_⟩) (by assumption) ?_
  rotate_left
  · intro w hSw; (try dsimp only at hSw); go_simp; try with_reducible rfl
  try simp only [Act.put, List.setIfInBounds_toArray, List.set_cons_zero, List.set_cons_succ]
  refine held_take (i := 1) (v := ?_) rfl (by kernel_rfl) (by kernel_rfl) (by kernel_rfl) (fun _ _ _ h => h) (Or.inl ⟨by rfl, ?_⟩) (by assumption) ?_
  rotate_left
  · intro w hSw; (try dsimp only at hSw); go_simp; try with_reducible rfl
  try simp only [Act.put, List.setIfInBounds_toArray, List.set_cons_zero, List.set_cons_succ]
  refine held_take (i := 2) (v := ?_) rfl (by kernel_rfl) (by kernel_rfl) (by kernel_rfl) (fun _ _ _ h => h) (Or.inl ⟨by rfl, ?_⟩) (by assumption) ?_
  rotate_left
  · intro w hSw; (try dsimp only at hSw); go_simp; try with_reducible rfl
  try simp only [Act.put, List.setIfInBounds_toArray, List.set_cons_zero, List.set_cons_succ]
  refine held_take (i := 3) (v := ?_) rfl (by kernel_rfl) (by kernel_rfl) (by kernel_rfl) (fun _ _ _ h => h) (Or.inl ⟨by rfl, ?_⟩) (by assumption) ?_
  rotate_left
  · intro w hSw; (try dsimp only at hSw); go_simp; try with_reducible rfl
  try simp only [Act.put, List.setIfInBounds_toArray, List.set_cons_zero, List.set_cons_succ]
  refine held_take (i := 4) (v := ?_) rfl (by kernel_rfl) (by kernel_rfl) (by kernel_rfl) (fun _ _ _ h => h) (Or.inl ⟨by rfl, ?_⟩) (by assumption) ?_
  rotate_left
  · intro w hSw; (try dsimp only at hSw); go_simp; try with_reducible rfl
  try simp only [Act.put, List.setIfInBounds_toArray, List.set_cons_zero, List.set_cons_succ]
  refine held_take (i := 6) (v := ?_) rfl (by kernel_rfl) (by kernel_rfl) (by kernel_rfl) (fun _ _ _ h => h) (Or.inl ⟨by rfl, ?_⟩) (by assumption) ?_
  rotate_left
  · intro w hSw; (try dsimp only at hSw); go_simp; try with_reducible rfl
  try simp only [Act.put, List.setIfInBounds_toArray, List.set_cons_zero, List.set_cons_succ]
  refine held_take (i := 7) (v := ?_) rfl (by kernel_rfl) (by kernel_rfl) (by kernel_rfl) (fun _ _ _ h => h) (Or.inl ⟨by rfl, ?_⟩) (by assumption) ?_
  rotate_left
  · intro w hSw; (try dsimp only at hSw); go_simp; try with_reducible rfl
  try simp only [Act.put, List.setIfInBounds_toArray, List.set_cons_zero, List.set_cons_succ]
  refine held_take (i := 8) (v := ?_) rfl (by kernel_rfl) (by kernel_rfl) (by kernel_rfl) (fun _ _ _ h => h) (Or.inl ⟨by rfl, ?_⟩) (by assumption) ?_
  rotate_left
  · intro w hSw; (try dsimp only at hSw); go_simp; try with_reducible rfl
  try simp only [Act.put, List.setIfInBounds_toArray, List.set_cons_zero, List.set_cons_succ]
  refine held_take (i := 9) (v := ?_) rfl (by kernel_rfl) (by kernel_rfl) (by kernel_rfl) (fun _ _ _ h => h) (Or.inl ⟨by rfl, ?_⟩) (by assumption) ?_
  rotate_left
  · intro w hSw; (try dsimp only at hSw); go_simp; try with_reducible rfl
  try simp only [Act.put, List.setIfInBounds_toArray, List.set_cons_zero, List.set_cons_succ]
  refine held_take (i := 10) (v := ?_) rfl (by kernel_rfl) (by kernel_rfl) (by kernel_rfl) (fun _ _ _ h => h) (Or.inl ⟨by rfl, ?_⟩) (by assumption) ?_
  rotate_left
  · intro w hSw; (try dsimp only at hSw); go_simp; try with_reducible rfl
  try simp only [Act.put, List.setIfInBounds_toArray, List.set_cons_zero, List.set_cons_succ]
  refine held_ready (i := 5) rfl (by kernel_rfl) (fun K hK => ?_)
  go_simp
  refine cf.out.mono ?_
  rintro e2 w2 ⟨rfl, F2, U2⟩
  have UU := all_four (c := c) (cl := cl) U2
  have R2 := h1.out.r.stay U2 h.out.a1 h.out.a2
  have S3 := S2.out w2 UU
  have c2 := cr.out _ R2
  clear cf U2 cr R2
  replace F2 := Lib.hid F2
  replace UU := Lib.hid UU
  replace c2 := Lib.hid c2
  refine hK.out _ _ (S3) (fun hHeldN => ?_)
  clear hHeld hK K
  have hHeld := hHeldN
  clear hHeldN
  try simp only [Act.put, List.setIfInBounds_toArray, List.set_cons_zero, List.set_cons_succ]
  refine held_ready (i := 11) rfl (by kernel_rfl) (fun K hK => ?_)
  go_simp
  refine c2.out.mono ?_
  rintro e3 w3 ⟨rfl, R3, U3⟩
  have UV := UU.out.trans (all_two (b := b) (rb := rb) (rw := rw) (rm := rm) U3) (fun _ _ e => e)
  have D := h.out.both F2.out R3 U3 hmost.out (Nat.le_refl _)
  have S4 := S2.out w3 UV
  have UW := UA.out.trans UV (fun _ _ e => e)
  clear F2 UU c2 R3 U3 UV S3
  replace D := Lib.hid D
  replace UW := Lib.hid UW
  refine hK.out _ _ (S4) (fun hHeldN => ?_)
  clear hHeld hK K
  have hHeld := hHeldN
  clear hHeldN
  try simp only [Act.put, List.setIfInBounds_toArray, List.set_cons_zero, List.set_cons_succ]
  refine held_take (i := 12) (v := ?_) rfl (by kernel_rfl) (by kernel_rfl) (by kernel_rfl) (fun _ _ _ h => h) (Or.inl ⟨by rfl, ?_⟩) (by assumption) ?_
  rotate_left
  · intro w hSw; (try dsimp only at hSw); go_simp; try with_reducible rfl
  try simp only [Act.put, List.setIfInBounds_toArray, List.set_cons_zero, List.set_cons_succ]
  refine held_take (i := 13) (v := ?_) rfl (by kernel_rfl) (by kernel_rfl) (by kernel_rfl) (fun _ _ _ h => h) (Or.inl ⟨by rfl, ?_⟩) (by assumption) ?_
  rotate_left
  · intro w hSw; (try dsimp only at hSw); go_simp; try with_reducible rfl
  try simp only [Act.put, List.setIfInBounds_toArray, List.set_cons_zero, List.set_cons_succ]
  refine wpAnyH_done (by kernel_rfl) ?_ _
  clear hHeld
  go_wp2_with fail
  go_ret
  exact ⟨_, _, rfl, D.out, UW.out⟩
set_option maxHeartbeats 4000000 in
theorem one5 (h : Duo w b rb rw rm c cl n m L T) (hm : m < 1000000) (t a b' : Int) (e : Nat) (he : e < 4294967296) :
    Calls Tryd.prog 24 #[.pointer (some ⟨b, 0, none⟩), .pointer (some ⟨c, 0, none⟩), .agg #[.int .i64 5, .int .i64 t, .int .i64 a, .int .i64 b', .int .u32 (e : Int)]] w (OneSays b rb rw rm c cl n m w) := by
  obtain ⟨wa, hwa⟩ : ∃ wa, wa = w.alloc (.cells #[.int .i64 5, .int .i64 t, .int .i64 a, .int .i64 b', .int .u32 (e : Int)] 36) := ⟨_, rfl⟩
  have BA : Below w.heap.size w wa := hwa ▸ (Below.refl _ _).alloc (Nat.le_refl _) _
  have h1 := (h.below BA).drew
  have p0 : wa.cell? ⟨w.heap.size, 0, none⟩ = some (.int .i64 5) := by rw [hwa]; simp
  have p1 : wa.cell? ⟨w.heap.size, 1, none⟩ = some (.int .i64 t) := by rw [hwa]; simp
  have p2 : wa.cell? ⟨w.heap.size, 2, none⟩ = some (.int .i64 a) := by rw [hwa]; simp
  have p3 : wa.cell? ⟨w.heap.size, 3, none⟩ = some (.int .i64 b') := by rw [hwa]; simp
  have p4 : wa.cell? ⟨w.heap.size, 4, none⟩ = some (.int .u32 (e : Int)) := by rw [hwa]; simp
  have nF : ¬ All6 b rb rw rm c cl w.heap.size := fun e => by
    rcases e with e | rfl | rfl
    · exact absurd (h.f.lts e) (Nat.lt_irrefl _)
    · exact absurd (lt_of_block h.r.f) (Nat.lt_irrefl _)
    · exact absurd (lt_of_block h.r.ints) (Nat.lt_irrefl _)
  have hlt : w.heap.size < wa.heap.size := by rw [hwa]; simp
  have UA : Upd (All6 b rb rw rm c cl) w wa.drew := (Upd.of_below BA).drew
  have cf := ehold_any h1.f (by omega) e he
  have cr := fun x (hx : RefE x c cl n L T) => qhold_any hx e he (by have := h.most e; omega)
  have S2 := fun (u : World) (U : Upd (All6 b rb rw rm c cl) wa.drew u) => ((U.cell (p := ⟨w.heap.size, 4, none⟩) hlt nF).trans p4 : (fun w' => w'.cell? ⟨w.heap.size, 4, none⟩ = some (.int .u32 (e : Int))) u)
  have hmost := most_hold (n := n) h.most e
  replace BA := Lib.hid BA
  replace h1 := Lib.hid h1
  replace h := Lib.hid h
  replace hwa := Lib.hid hwa
  replace cf := Lib.hid cf
  replace cr := Lib.hid cr
  replace S2 := Lib.hid S2
  replace UA := Lib.hid UA
  replace hmost := Lib.hid hmost
  go_enter Tryd.func24, Tryd.ntmps24
  go_wp2_with fail
  rw [← hwa.out]
  go_wp2_with fail
  refine wp_region_held_drew (S := (fun w' => w'.cell? ⟨w.heap.size, 4, none⟩ = some (.int .u32 (e : Int)))) (by kernel_rfl) (p4) (fun hHeld => ?_)
  refine held_take (i := 0) (v := ?_) rfl (by kernel_rfl) (by kernel_rfl) (by kernel_rfl) (fun _ _ _ h => h) (Or.inl ⟨by rfl, ?_⟩) (by assumption) ?_
  rotate_left
  · intro w hSw; (try dsimp only at hSw); go_simp; try with_reducible rfl
  try simp only [Act.put, List.setIfInBounds_toArray, List.set_cons_zero, List.set_cons_succ]
  refine held_take (i := 1) (v := ?_) rfl (by kernel_rfl) (by kernel_rfl) (by kernel_rfl) (fun _ _ _ h => h) (Or.inl ⟨by rfl, ?_⟩) (by assumption) ?_
  rotate_left
  · intro w hSw; (try dsimp only at hSw); go_simp; try with_reducible rfl
  try simp only [Act.put, List.setIfInBounds_toArray, List.set_cons_zero, List.set_cons_succ]
  refine held_take (i := 2) (v := ?_) rfl (by kernel_rfl) (by kernel_rfl) (by kernel_rfl) (fun _ _ _ h => h) (Or.inl ⟨by rfl, ?_⟩) (by assumption) ?_
  rotate_left
  · intro w hSw; (try dsimp only at hSw); go_simp; try with_reducible rfl
  try simp only [Act.put, List.setIfInBounds_toArray, List.set_cons_zero, List.set_cons_succ]
  refine held_take (i := 4) (v := ?_) rfl (by kernel_rfl) (by kernel_rfl) (by kernel_rfl) (fun _ _ _ h => h) (Or.inl ⟨by rfl, ?_⟩) (by assumption) ?_
  rotate_left
  · intro w hSw; (try dsimp only at hSw); go_simp; try with_reducible rfl
  try simp only [Act.put, List.setIfInBounds_toArray, List.set_cons_zero, List.set_cons_succ]
  refine held_take (i := 5) (v := ?_) rfl (by kernel_rfl) (by kernel_rfl) (by kernel_rfl) (fun _ _ _ h => h) (Or.inl ⟨by rfl, ?_⟩) (by assumption) ?_
  rotate_left
  · intro w hSw; (try dsimp only at hSw); go_simp; try with_reducible rfl
  try simp only [Act.put, List.setIfInBounds_toArray, List.set_cons_zero, List.set_cons_succ]
  refine held_take (i := 6) (v := ?_) rfl (by kernel_rfl) (by kernel_rfl) (by kernel_rfl) (fun _ _ _ h => h) (Or.inl ⟨by rfl, ?_⟩) (by assumption) ?_
  rotate_left
  · intro w hSw; (try dsimp only at hSw); go_simp; try with_reducible rfl
  try simp only [Act.put, List.setIfInBounds_toArray, List.set_cons_zero, List.set_cons_succ]
  refine held_ready (i := 3) rfl (by kernel_rfl) (fun K hK => ?_)
  go_simp
  refine cf.out.mono ?_
  rintro e2 w2 ⟨rfl, F2, U2⟩
  have UU := all_four (c := c) (cl := cl) U2
  have R2 := h1.out.r.stay U2 h.out.a1 h.out.a2
  have S3 := S2.out w2 UU
  have c2 := cr.out _ R2
  clear cf U2 cr R2
  replace F2 := Lib.hid F2
  replace UU := Lib.hid UU
  replace c2 := Lib.hid c2
  refine hK.out _ _ (S3) (fun hHeldN => ?_)
  clear hHeld hK K
  have hHeld := hHeldN
  clear hHeldN
  try simp only [Act.put, List.setIfInBounds_toArray, List.set_cons_zero, List.set_cons_succ]
  refine held_ready (i := 7) rfl (by kernel_rfl) (fun K hK => ?_)
  go_simp
  refine c2.out.mono ?_
  rintro e3 w3 ⟨rfl, R3, U3⟩
  have UV := UU.out.trans (all_two (b := b) (rb := rb) (rw := rw) (rm := rm) U3) (fun _ _ e => e)
  have D := h.out.both F2.out R3 U3 hmost.out (Nat.le_refl _)
  have S4 := S2.out w3 UV
  have UW := UA.out.trans UV (fun _ _ e => e)
  clear F2 UU c2 R3 U3 UV S3
  replace D := Lib.hid D
  replace UW := Lib.hid UW
  refine hK.out _ _ (S4) (fun hHeldN => ?_)
  clear hHeld hK K
  have hHeld := hHeldN
  clear hHeldN
  try simp only [Act.put, List.setIfInBounds_toArray, List.set_cons_zero, List.set_cons_succ]
  refine held_take (i := 8) (v := ?_) rfl (by kernel_rfl) (by kernel_rfl) (by kernel_rfl) (fun _ _ _ h => h) (Or.inl ⟨by rfl, ?_⟩) (by assumption) ?_
  rotate_left
  · intro w hSw; (try dsimp only at hSw); go_simp; try with_reducible rfl
  try simp only [Act.put, List.setIfInBounds_toArray, List.set_cons_zero, List.set_cons_succ]
  refine held_take (i := 9) (v := ?_) rfl (by kernel_rfl) (by kernel_rfl) (by kernel_rfl) (fun _ _ _ h => h) (Or.inl ⟨by rfl, ?_⟩) (by assumption) ?_
  rotate_left
  · intro w hSw; (try dsimp only at hSw); go_simp; try with_reducible rfl
  try simp only [Act.put, List.setIfInBounds_toArray, List.set_cons_zero, List.set_cons_succ]
  refine wpAnyH_done (by kernel_rfl) ?_ _
  clear hHeld
  go_wp2_with fail
  go_ret
  exact ⟨_, _, rfl, D.out, UW.out⟩
set_option maxHeartbeats 4000000 in
theorem one6 (h : Duo w b rb rw rm c cl n m L T) (hm : m < 1000000) (t a b' : Int) (e : Nat) (he : e < 4294967296) :
    Calls Tryd.prog 24 #[.pointer (some ⟨b, 0, none⟩), .pointer (some ⟨c, 0, none⟩), .agg #[.int .i64 6, .int .i64 t, .int .i64 a, .int .i64 b', .int .u32 (e : Int)]] w (OneSays b rb rw rm c cl n m w) := by
  obtain ⟨wa, hwa⟩ : ∃ wa, wa = w.alloc (.cells #[.int .i64 6, .int .i64 t, .int .i64 a, .int .i64 b', .int .u32 (e : Int)] 36) := ⟨_, rfl⟩
  have BA : Below w.heap.size w wa := hwa ▸ (Below.refl _ _).alloc (Nat.le_refl _) _
  have h1 := (h.below BA).drew
  have p0 : wa.cell? ⟨w.heap.size, 0, none⟩ = some (.int .i64 6) := by rw [hwa]; simp
  have p1 : wa.cell? ⟨w.heap.size, 1, none⟩ = some (.int .i64 t) := by rw [hwa]; simp
  have p2 : wa.cell? ⟨w.heap.size, 2, none⟩ = some (.int .i64 a) := by rw [hwa]; simp
  have p3 : wa.cell? ⟨w.heap.size, 3, none⟩ = some (.int .i64 b') := by rw [hwa]; simp
  have p4 : wa.cell? ⟨w.heap.size, 4, none⟩ = some (.int .u32 (e : Int)) := by rw [hwa]; simp
  have nF : ¬ All6 b rb rw rm c cl w.heap.size := fun e => by
    rcases e with e | rfl | rfl
    · exact absurd (h.f.lts e) (Nat.lt_irrefl _)
    · exact absurd (lt_of_block h.r.f) (Nat.lt_irrefl _)
    · exact absurd (lt_of_block h.r.ints) (Nat.lt_irrefl _)
  have hlt : w.heap.size < wa.heap.size := by rw [hwa]; simp
  have UA : Upd (All6 b rb rw rm c cl) w wa.drew := (Upd.of_below BA).drew
  have cf := edrop_any h1.f (by omega) t e he
  have cr := fun x (hx : RefE x c cl n L T) => qdrop_any hx t e he (by have := h.most e; omega)
  have S2 := fun (u : World) (U : Upd (All6 b rb rw rm c cl) wa.drew u) => (⟨(U.cell (p := ⟨w.heap.size, 1, none⟩) hlt nF).trans p1, (U.cell (p := ⟨w.heap.size, 4, none⟩) hlt nF).trans p4⟩ : (fun w' => w'.cell? ⟨w.heap.size, 1, none⟩ = some (.int .i64 t) ∧ w'.cell? ⟨w.heap.size, 4, none⟩ = some (.int .u32 (e : Int))) u)
  have hmost := most_drop (n := n) (T := T) h.most t e
  replace BA := Lib.hid BA
  replace h1 := Lib.hid h1
  replace h := Lib.hid h
  replace hwa := Lib.hid hwa
  replace cf := Lib.hid cf
  replace cr := Lib.hid cr
  replace S2 := Lib.hid S2
  replace UA := Lib.hid UA
  replace hmost := Lib.hid hmost
  go_enter Tryd.func24, Tryd.ntmps24
  go_wp2_with fail
  rw [← hwa.out]
  go_wp2_with fail
  refine wp_region_held_drew (S := (fun w' => w'.cell? ⟨w.heap.size, 1, none⟩ = some (.int .i64 t) ∧ w'.cell? ⟨w.heap.size, 4, none⟩ = some (.int .u32 (e : Int)))) (by kernel_rfl) (⟨p1, p4⟩) (fun hHeld => ?_)
  refine held_take (i := 0) (v := ?_) rfl (by kernel_rfl) (by kernel_rfl) (by kernel_rfl) (fun _ _ _ h => h) (Or.inl ⟨by rfl, ?_⟩) (by assumption) ?_
  rotate_left
  · intro w hSw; (try dsimp only at hSw); go_simp; try with_reducible rfl
  try simp only [Act.put, List.setIfInBounds_toArray, List.set_cons_zero, List.set_cons_succ]
  refine held_take (i := 1) (v := ?_) rfl (by kernel_rfl) (by kernel_rfl) (by kernel_rfl) (fun _ _ _ h => h) (Or.inl ⟨by rfl, ?_⟩) (by assumption) ?_
  rotate_left
  · intro w hSw; (try dsimp only at hSw); go_simp; try with_reducible rfl
  try simp only [Act.put, List.setIfInBounds_toArray, List.set_cons_zero, List.set_cons_succ]
  refine held_take (i := 2) (v := ?_) rfl (by kernel_rfl) (by kernel_rfl) (by kernel_rfl) (fun _ _ _ h => h) (Or.inl ⟨by rfl, ?_⟩) (by assumption) ?_
  rotate_left
  · intro w hSw; (try dsimp only at hSw); go_simp; try with_reducible rfl
  try simp only [Act.put, List.setIfInBounds_toArray, List.set_cons_zero, List.set_cons_succ]
  refine held_take (i := 3) (v := ?_) rfl (by kernel_rfl) (by kernel_rfl) (by kernel_rfl) (fun _ _ _ h => h) (Or.inl ⟨by rfl, ?_⟩) (by assumption) ?_
  rotate_left
  · intro w hSw; (try dsimp only at hSw); go_simp; try with_reducible rfl
  try simp only [Act.put, List.setIfInBounds_toArray, List.set_cons_zero, List.set_cons_succ]
  refine held_take (i := 4) (v := ?_) rfl (by kernel_rfl) (by kernel_rfl) (by kernel_rfl) (fun _ _ _ h => h) (Or.inl ⟨by rfl, ?_⟩) (by assumption) ?_
  rotate_left
  · intro w hSw; (try dsimp only at hSw); go_simp; try with_reducible rfl
  try simp only [Act.put, List.setIfInBounds_toArray, List.set_cons_zero, List.set_cons_succ]
  refine held_take (i := 6) (v := ?_) rfl (by kernel_rfl) (by kernel_rfl) (by kernel_rfl) (fun _ _ _ h => h) (Or.inl ⟨by rfl, ?_⟩) (by assumption) ?_
  rotate_left
  · intro w hSw; (try dsimp only at hSw); go_simp; try with_reducible rfl
  try simp only [Act.put, List.setIfInBounds_toArray, List.set_cons_zero, List.set_cons_succ]
  refine held_take (i := 7) (v := ?_) rfl (by kernel_rfl) (by kernel_rfl) (by kernel_rfl) (fun _ _ _ h => h) (Or.inl ⟨by rfl, ?_⟩) (by assumption) ?_
  rotate_left
  · intro w hSw; (try dsimp only at hSw); go_simp; try with_reducible rfl
  try simp only [Act.put, List.setIfInBounds_toArray, List.set_cons_zero, List.set_cons_succ]
  refine held_take (i := 8) (v := ?_) rfl (by kernel_rfl) (by kernel_rfl) (by kernel_rfl) (fun _ _ _ h => h) (Or.inl ⟨by rfl, ?_⟩) (by assumption) ?_
  rotate_left
  · intro w hSw; (try dsimp only at hSw); go_simp; try with_reducible rfl
  try simp only [Act.put, List.setIfInBounds_toArray, List.set_cons_zero, List.set_cons_succ]
  refine held_take (i := 9) (v := ?_) rfl (by kernel_rfl) (by kernel_rfl) (by kernel_rfl) (fun _ _ _ h => h) (Or.inl ⟨by rfl, ?_⟩) (by assumption) ?_
  rotate_left
  · intro w hSw; (try dsimp only at hSw); go_simp; try with_reducible rfl
  try simp only [Act.put, List.setIfInBounds_toArray, List.set_cons_zero, List.set_cons_succ]
  refine held_take (i := 10) (v := ?_) rfl (by kernel_rfl) (by kernel_rfl) (by kernel_rfl) (fun _ _ _ h => h) (Or.inl ⟨by rfl, ?_⟩) (by assumption) ?_
  rotate_left
  · intro w hSw; (try dsimp only at hSw); go_simp; try with_reducible rfl
  try simp only [Act.put, List.setIfInBounds_toArray, List.set_cons_zero, List.set_cons_succ]
  refine held_ready (i := 5) rfl (by kernel_rfl) (fun K hK => ?_)
  go_simp
  refine cf.out.mono ?_
  rintro e2 w2 ⟨rfl, F2, U2⟩
  have UU := all_four (c := c) (cl := cl) U2
  have R2 := h1.out.r.stay U2 h.out.a1 h.out.a2
  have S3 := S2.out w2 UU
  have c2 := cr.out _ R2
  clear cf U2 cr R2
  replace F2 := Lib.hid F2
  replace UU := Lib.hid UU
  replace c2 := Lib.hid c2
  refine hK.out _ _ (S3) (fun hHeldN => ?_)
  clear hHeld hK K
  have hHeld := hHeldN
  clear hHeldN
  try simp only [Act.put, List.setIfInBounds_toArray, List.set_cons_zero, List.set_cons_succ]
  refine held_ready (i := 11) rfl (by kernel_rfl) (fun K hK => ?_)
  go_simp
  refine c2.out.mono ?_
  rintro e3 w3 ⟨rfl, R3, U3⟩
  have UV := UU.out.trans (all_two (b := b) (rb := rb) (rw := rw) (rm := rm) U3) (fun _ _ e => e)
  have D := h.out.both F2.out R3 U3 hmost.out (Nat.le_refl _)
  have S4 := S2.out w3 UV
  have UW := UA.out.trans UV (fun _ _ e => e)
  clear F2 UU c2 R3 U3 UV S3
  replace D := Lib.hid D
  replace UW := Lib.hid UW
  refine hK.out _ _ (S4) (fun hHeldN => ?_)
  clear hHeld hK K
  have hHeld := hHeldN
  clear hHeldN
  try simp only [Act.put, List.setIfInBounds_toArray, List.set_cons_zero, List.set_cons_succ]
  refine held_take (i := 12) (v := ?_) rfl (by kernel_rfl) (by kernel_rfl) (by kernel_rfl) (fun _ _ _ h => h) (Or.inl ⟨by rfl, ?_⟩) (by assumption) ?_
  rotate_left
  · intro w hSw; (try dsimp only at hSw); go_simp; try with_reducible rfl
  try simp only [Act.put, List.setIfInBounds_toArray, List.set_cons_zero, List.set_cons_succ]
  refine held_take (i := 13) (v := ?_) rfl (by kernel_rfl) (by kernel_rfl) (by kernel_rfl) (fun _ _ _ h => h) (Or.inl ⟨by rfl, ?_⟩) (by assumption) ?_
  rotate_left
  · intro w hSw; (try dsimp only at hSw); go_simp; try with_reducible rfl
  try simp only [Act.put, List.setIfInBounds_toArray, List.set_cons_zero, List.set_cons_succ]
  refine wpAnyH_done (by kernel_rfl) ?_ _
  clear hHeld
  go_wp2_with fail
  go_ret
  exact ⟨_, _, rfl, D.out, UW.out⟩
set_option maxHeartbeats 4000000 in
theorem one3_no (h : Duo w b rb rw rm c cl n m L T) (t a b' : Int) (e : Nat) (hE : takeE n T t ≠ 0) :
    Calls Tryd.prog 24 #[.pointer (some ⟨b, 0, none⟩), .pointer (some ⟨c, 0, none⟩), .agg #[.int .i64 3, .int .i64 t, .int .i64 a, .int .i64 b', .int .u32 (e : Int)]] w (OneSays b rb rw rm c cl n m w) := by
  obtain ⟨wa, hwa⟩ : ∃ wa, wa = w.alloc (.cells #[.int .i64 3, .int .i64 t, .int .i64 a, .int .i64 b', .int .u32 (e : Int)] 36) := ⟨_, rfl⟩
  have BA : Below w.heap.size w wa := hwa ▸ (Below.refl _ _).alloc (Nat.le_refl _) _
  have h1 := (h.below BA).drew
  have p0 : wa.cell? ⟨w.heap.size, 0, none⟩ = some (.int .i64 3) := by rw [hwa]; simp
  have p1 : wa.cell? ⟨w.heap.size, 1, none⟩ = some (.int .i64 t) := by rw [hwa]; simp
  have p2 : wa.cell? ⟨w.heap.size, 2, none⟩ = some (.int .i64 a) := by rw [hwa]; simp
  have p3 : wa.cell? ⟨w.heap.size, 3, none⟩ = some (.int .i64 b') := by rw [hwa]; simp
  have p4 : wa.cell? ⟨w.heap.size, 4, none⟩ = some (.int .u32 (e : Int)) := by rw [hwa]; simp
  have nF : ¬ All6 b rb rw rm c cl w.heap.size := fun e => by
    rcases e with e | rfl | rfl
    · exact absurd (h.f.lts e) (Nat.lt_irrefl _)
    · exact absurd (lt_of_block h.r.f) (Nat.lt_irrefl _)
    · exact absurd (lt_of_block h.r.ints) (Nat.lt_irrefl _)
  have hlt : w.heap.size < wa.heap.size := by rw [hwa]; simp
  have UA : Upd (All6 b rb rw rm c cl) w wa.drew := (Upd.of_below BA).drew
  have h2 := h.below BA
  have UB : Upd (All6 b rb rw rm c cl) w wa := Upd.of_below BA
  have cf := etake_no h2.f t hE
  have cr := fun x (hx : RefE x c cl n L T) => qtake_no hx t hE
  generalize takeE n T t = E at *
  replace BA := Lib.hid BA
  replace h1 := Lib.hid h1
  replace h := Lib.hid h
  replace hwa := Lib.hid hwa
  replace cf := Lib.hid cf
  replace cr := Lib.hid cr
  replace UA := Lib.hid UA
  replace UB := Lib.hid UB
  replace h2 := Lib.hid h2
  replace hE := Lib.hid hE
  go_enter Tryd.func24, Tryd.ntmps24
  go_wp2_with fail
  rw [← hwa.out]
  go_wp2_with fail
  refine cf.out.mono ?_
  rintro e2 w2 ⟨rfl, B2⟩
  have h3 := h2.out.below B2
  have c2 := cr.out _ h3.r
  have q1 := (B2.cell (p := ⟨w.heap.size, 1, none⟩) hlt).trans p1
  have U3 := UB.out.trans (Upd.of_below (S := All6 b rb rw rm c cl) B2) (fun _ _ e => e)
  clear cf cr B2
  replace h3 := Lib.hid h3
  replace c2 := Lib.hid c2
  replace U3 := Lib.hid U3
  go_wp2_with fail
  refine c2.out.mono ?_
  rintro e3 w3 ⟨rfl, B3⟩
  have h4 := h3.out.below B3
  have U4 := U3.out.trans (Upd.of_below (S := All6 b rb rw rm c cl) B3) (fun _ _ e => e)
  have D : Duo w3 b rb rw rm c cl n (m + 1) L T := ⟨h4.f.mono (Nat.le_succ m), h4.r, h4.a1, h4.a2, fun i => Nat.le_succ_of_le (h4.most i)⟩
  clear h3 c2 B3 h4
  replace D := Lib.hid D
  replace U4 := Lib.hid U4
  go_wp2_with fail
  go_ret
  exact ⟨_, _, rfl, D.out, U4.out⟩
set_option maxHeartbeats 4000000 in
theorem one3_ok (h : Duo w b rb rw rm c cl n m L T) (t a b' : Int) (e : Nat) (hT : TabAt w) (hm : m < 1000000) (hE : takeE n T t = 0) :
    Calls Tryd.prog 24 #[.pointer (some ⟨b, 0, none⟩), .pointer (some ⟨c, 0, none⟩), .agg #[.int .i64 3, .int .i64 t, .int .i64 a, .int .i64 b', .int .u32 (e : Int)]] w (OneSays b rb rw rm c cl n m w) := by
  obtain ⟨wa, hwa⟩ : ∃ wa, wa = w.alloc (.cells #[.int .i64 3, .int .i64 t, .int .i64 a, .int .i64 b', .int .u32 (e : Int)] 36) := ⟨_, rfl⟩
  have BA : Below w.heap.size w wa := hwa ▸ (Below.refl _ _).alloc (Nat.le_refl _) _
  have h1 := (h.below BA).drew
  have p0 : wa.cell? ⟨w.heap.size, 0, none⟩ = some (.int .i64 3) := by rw [hwa]; simp
  have p1 : wa.cell? ⟨w.heap.size, 1, none⟩ = some (.int .i64 t) := by rw [hwa]; simp
  have p2 : wa.cell? ⟨w.heap.size, 2, none⟩ = some (.int .i64 a) := by rw [hwa]; simp
  have p3 : wa.cell? ⟨w.heap.size, 3, none⟩ = some (.int .i64 b') := by rw [hwa]; simp
  have p4 : wa.cell? ⟨w.heap.size, 4, none⟩ = some (.int .u32 (e : Int)) := by rw [hwa]; simp
  have nF : ¬ All6 b rb rw rm c cl w.heap.size := fun e => by
    rcases e with e | rfl | rfl
    · exact absurd (h.f.lts e) (Nat.lt_irrefl _)
    · exact absurd (lt_of_block h.r.f) (Nat.lt_irrefl _)
    · exact absurd (lt_of_block h.r.ints) (Nat.lt_irrefl _)
  have hlt : w.heap.size < wa.heap.size := by rw [hwa]; simp
  have UA : Upd (All6 b rb rw rm c cl) w wa.drew := (Upd.of_below BA).drew
  have h2 := h.below BA
  have UB : Upd (All6 b rb rw rm c cl) w wa := Upd.of_below BA
  have cf := etake_ok h2.f (hT.below BA) (by omega) t hE
  have cr := fun x (hx : RefE x c cl n L T) => qtake_ok hx t hE
  replace BA := Lib.hid BA
  replace h1 := Lib.hid h1
  replace h := Lib.hid h
  replace hwa := Lib.hid hwa
  replace cf := Lib.hid cf
  replace cr := Lib.hid cr
  replace UA := Lib.hid UA
  replace UB := Lib.hid UB
  replace h2 := Lib.hid h2
  replace hE := Lib.hid hE
  go_enter Tryd.func24, Tryd.ntmps24
  go_wp2_with fail
  rw [← hwa.out]
  go_wp2_with fail
  refine cf.out.mono ?_
  rintro e2 w2 ⟨i, hi, hL, hf, rfl, F2, U2⟩
  have UU := all_four (c := c) (cl := cl) U2
  have R2 := h2.out.r.stay U2 h2.out.a1 h2.out.a2
  have q1 := (UU.cell (p := ⟨w.heap.size, 1, none⟩) hlt nF).trans p1
  have c2 := cr.out _ R2
  have U3 := UB.out.trans UU (fun _ _ e => e)
  clear cf U2 cr R2 UU
  replace F2 := Lib.hid F2
  replace c2 := Lib.hid c2
  replace U3 := Lib.hid U3
  replace hf := Lib.hid hf
  replace hi := Lib.hid hi
  replace hL := Lib.hid hL
  go_wp2_with fail
  refine c2.out.mono ?_
  rintro e3 w3 ⟨j, hj, hLj, hfj, rfl, R3, V3⟩
  have eij : j = i := by
    rcases Nat.lt_trichotomy i j with q | q | q
    · exact absurd hL.out (by have := hfj i q; omega)
    · exact q.symm
    · exact absurd hLj (by have := hf.out j q; omega)
  subst eij
  have UV := U3.out.trans (all_two (b := b) (rb := rb) (rw := rw) (rm := rm) V3) (fun _ _ e => e)
  have D := h.out.both F2.out R3 V3 (most_up h.out.most (by omega)) (Nat.le_refl _)
  clear F2 c2 R3 V3 U3 hfj hf hi hL hj hLj
  replace D := Lib.hid D
  replace UV := Lib.hid UV
  go_wp2_with fail
  go_ret
  exact ⟨_, _, rfl, D.out, UV.out⟩
set_option maxHeartbeats 4000000 in
theorem onen (h : Duo w b rb rw rm c cl n m L T) (k t a b' : Int) (e : Nat) (hk : k < 0 ∨ 6 < k) :
    Calls Tryd.prog 24 #[.pointer (some ⟨b, 0, none⟩), .pointer (some ⟨c, 0, none⟩), .agg #[.int .i64 k, .int .i64 t, .int .i64 a, .int .i64 b', .int .u32 (e : Int)]] w (OneSays b rb rw rm c cl n m w) := by
  obtain ⟨wa, hwa⟩ : ∃ wa, wa = w.alloc (.cells #[.int .i64 k, .int .i64 t, .int .i64 a, .int .i64 b', .int .u32 (e : Int)] 36) := ⟨_, rfl⟩
  have BA : Below w.heap.size w wa := hwa ▸ (Below.refl _ _).alloc (Nat.le_refl _) _
  have h1 := (h.below BA).drew
  have p0 : wa.cell? ⟨w.heap.size, 0, none⟩ = some (.int .i64 k) := by rw [hwa]; simp
  have p1 : wa.cell? ⟨w.heap.size, 1, none⟩ = some (.int .i64 t) := by rw [hwa]; simp
  have p2 : wa.cell? ⟨w.heap.size, 2, none⟩ = some (.int .i64 a) := by rw [hwa]; simp
  have p3 : wa.cell? ⟨w.heap.size, 3, none⟩ = some (.int .i64 b') := by rw [hwa]; simp
  have p4 : wa.cell? ⟨w.heap.size, 4, none⟩ = some (.int .u32 (e : Int)) := by rw [hwa]; simp
  have nF : ¬ All6 b rb rw rm c cl w.heap.size := fun e => by
    rcases e with e | rfl | rfl
    · exact absurd (h.f.lts e) (Nat.lt_irrefl _)
    · exact absurd (lt_of_block h.r.f) (Nat.lt_irrefl _)
    · exact absurd (lt_of_block h.r.ints) (Nat.lt_irrefl _)
  have hlt : w.heap.size < wa.heap.size := by rw [hwa]; simp
  have UA : Upd (All6 b rb rw rm c cl) w wa.drew := (Upd.of_below BA).drew
  have k0 : (k == 0) = false := beq_false_of_ne (by omega)
  have k1 : (k == 1) = false := beq_false_of_ne (by omega)
  have k2 : (k == 2) = false := beq_false_of_ne (by omega)
  have k3 : (k == 3) = false := beq_false_of_ne (by omega)
  have k4 : (k == 4) = false := beq_false_of_ne (by omega)
  have k5 : (k == 5) = false := beq_false_of_ne (by omega)
  have k6 : (k == 6) = false := beq_false_of_ne (by omega)
  have h2 := h.below BA
  have UB : Upd (All6 b rb rw rm c cl) w wa := Upd.of_below BA
  have D : Duo wa b rb rw rm c cl n (m + 1) L T := ⟨h2.f.mono (Nat.le_succ m), h2.r, h2.a1, h2.a2, fun i => Nat.le_succ_of_le (h2.most i)⟩
  clear hk
  replace BA := Lib.hid BA
  replace h1 := Lib.hid h1
  replace h := Lib.hid h
  replace hwa := Lib.hid hwa
  replace UA := Lib.hid UA
  replace UB := Lib.hid UB
  replace h2 := Lib.hid h2
  replace D := Lib.hid D
  go_enter Tryd.func24, Tryd.ntmps24
  go_wp2_with fail
  go_ret
  rw [← hwa.out]
  exact ⟨_, _, rfl, D.out, UB.out⟩
end
theorem one_any {w : World} {b rb rw rm c cl n m : Nat} {L : Nat → Nat} {T : Nat → Ten} (h : Duo w b rb rw rm c cl n m L T) (hT : TabAt w) (hm : m < 1000000) (p : Op17) (he : p.e < 4294967296) :
    Calls Tryd.prog 24 #[.pointer (some ⟨b, 0, none⟩), .pointer (some ⟨c, 0, none⟩), .agg p.cells.toArray] w (OneSays b rb rw rm c cl n m w) := by
  obtain ⟨k, t, a, b', e⟩ := p
  have he : e < 4294967296 := he
  by_cases hk : k < 0 ∨ 6 < k
  · exact onen h k t a b' e hk
  · rcases (show k = 0 ∨ k = 1 ∨ k = 2 ∨ k = 3 ∨ k = 4 ∨ k = 5 ∨ k = 6 by omega) with rfl | rfl | rfl | rfl | rfl | rfl | rfl
    · exact one0 h hm t a b' e he
    · exact one1 h hm t a b' e he
    · exact one2 h hm t a b' e he
    · by_cases hE : takeE n T t = 0
      · exact one3_ok h t a b' e hT hm hE
      · exact one3_no h t a b' e hE
    · exact one4 h hm t a b' e he
    · exact one5 h hm t a b' e he
    · exact one6 h hm t a b' e he
end Go.Proofs.YtjhfoddhpmmjoaaDoor
