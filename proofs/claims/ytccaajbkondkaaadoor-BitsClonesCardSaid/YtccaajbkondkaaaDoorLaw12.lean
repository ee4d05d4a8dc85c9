/-
  Layer 12: 'alive', and a row behind ops ('played'). The table of math/bits stands in the world: the one condition.
-/
import Derived.Test.YtccaajbkondkaaaDoorClone
import Derived.Test.YtccaajbkondkaaaDoorRefBits
namespace Go.Proofs.YtccaajbkondkaaaDoor
open Go.RowKit Go.Maps

theorem TabAt.below {w w' : World} (h : TabAt w) (hB : Below w.heap.size w w') : TabAt w' := fun i v hv => by
  have := h i v hv
  rw [hB.cell (p := ⟨0, i, none⟩) (block_lt_of_cell this)]
  exact this
theorem TabAt.lt {w : World} (h : TabAt w) : 0 < w.heap.size := block_lt_of_cell (h 0 0 rfl)

theorem hold_res {w : World} {b bw bm n m : Nat} {L : Nat → Nat} (hr : RowAt w b bw bm n m L) (hm : m < 1000000000000) (i r : Int) (h : holdRes n L i = r) :
    Calls Tryd.prog 18 #[.pointer (some ⟨b, 0, none⟩), .int .i64 i] w fun e w' => e = .returned (.int .i64 r) ∧ RowAt w' b bw bm n (m + 1) (holdL n L i) ∧ Upd (Three b bw bm) w w' :=
  (hold_any hr hm i).mono fun _ _ ⟨h1, h2, h3⟩ => ⟨by rw [h1, h], h2, h3⟩
theorem drop_res {w : World} {b bw bm n m : Nat} {L : Nat → Nat} (hr : RowAt w b bw bm n m L) (hm : m < 1000000000000) (i r : Int) (x : Bool) (hx : dropFree n L i = x) (h : dropRes n L i = r) :
    Calls Tryd.prog 20 #[.pointer (some ⟨b, 0, none⟩), .int .i64 i] w fun e w' => e = .returned (.tuple #[.bool x, .int .i64 r]) ∧ RowAt w' b bw bm n (m + 1) (dropL n L i) ∧ Upd (Three b bw bm) w w' :=
  (drop_any hr hm i).mono fun _ _ ⟨h1, h2, h3⟩ => ⟨by rw [h1, hx, h], h2, h3⟩

/-- The first free place, reckoned. -/
def ffree (L : Nat → Nat) (f : Nat) : Nat → Option Nat
  | 0 => .none
  | n + 1 => match ffree L f n with
    | some j => some j
    | .none => if f ≤ n ∧ L n = 0 then some n else .none
theorem ffree_first (L : Nat → Nat) (f : Nat) : ∀ n, FirstFree L n f (ffree L f n)
  | 0 => fun i a b => by omega
  | n + 1 => by
    have ih := ffree_first L f n
    simp only [ffree]
    cases h : ffree L f n with
    | some j =>
      rw [h] at ih
      exact ⟨ih.1, by have := ih.2.1; omega, ih.2.2.1, ih.2.2.2⟩
    | none =>
      rw [h] at ih
      simp only
      by_cases c : f ≤ n ∧ L n = 0
      · rw [if_pos c]; exact ⟨c.1, by omega, c.2, fun i a b => ih i a b⟩
      · rw [if_neg c]
        intro i a b
        by_cases e : i = n
        · subst e; exact fun h0 => c ⟨a, h0⟩
        · exact ih i a (by omega)
theorem free_res {w : World} {b bw bm n m : Nat} {L : Nat → Nat} (hr : RowAt w b bw bm n m L) (hT : TabAt w) (f : Int) (o : Option Nat) (ho : ffree L f.toNat n = o) :
    Calls Tryd.prog 16 #[.pointer (some ⟨b, 0, none⟩), .int .i64 f] w fun e w' => e = .returned (.tuple #[.int .i64 (o.getD 0 : Nat), .bool o.isSome]) ∧ w = w' :=
  (free_all hr hT f).mono fun _ _ ⟨r, h1, h2, h3⟩ => by
    obtain rfl := h1.eq (ffree_first L f.toNat n)
    rw [ho] at h2
    exact ⟨h2, h3⟩
theorem rfree_res {w : World} {c cl n : Nat} {L : Nat → Nat} (hr : RefAt w c cl n L) (f : Int) (o : Option Nat) (ho : ffree L f.toNat n = o) :
    Calls Tryd.prog 17 #[.pointer (some ⟨c, 0, none⟩), .int .i64 f] w fun e w' => e = .returned (.tuple #[.int .i64 (o.getD 0 : Nat), .bool o.isSome]) ∧ w = w' :=
  (rfree_any hr f).mono fun _ _ ⟨r, h1, h2, h3⟩ => by
    obtain rfl := h1.eq (ffree_first L f.toNat n)
    rw [ho] at h2
    exact ⟨h2, h3⟩

theorem upd_below {B : Nat} {w w1 w2 : World} {b bw bm : Nat} (h : Below B w w1) (u : Upd (Three b bw bm) w1 w2) (h1 : B ≤ b) (h2 : B ≤ bw) (h3 : B ≤ bm) (hB : B ≤ w.heap.size) : Below B w w2 :=
  h.trans (u.below (fun k hk hs => by unfold Three at hs; omega) (Nat.le_trans hB h.size))

set_option maxRecDepth 100000 in
theorem alive_any (w : World) (hT : TabAt w) : Calls Tryd.prog 13 #[] w fun e w' => e = .returned (.bool true) ∧ Below w.heap.size w w' := by
  have c1 := Lib.hid (bnew_ok 2 w (by omega) (by omega))
  replace hT := Lib.hid hT
  go_enter Tryd.func13, Tryd.ntmps13
  go_wp2_with fail
  refine c1.out.mono ?_
  rintro e w1 ⟨b, bw, bm, hb, hbw, hbm, rfl, r1, B1⟩
  replace B1 := Lib.hid B1
  go_wp2_with fail
  refine (hold_res r1 (by omega) 0 0 (by decide)).mono ?_
  rintro e w2 ⟨rfl, r2, U2⟩
  have B2 := Lib.hid (upd_below B1.out U2 hb hbw hbm (Nat.le_refl _))
  clear U2
  go_wp2_with fail
  refine (hold_res r2 (by omega) 0 0 (by decide)).mono ?_
  rintro e w3 ⟨rfl, r3, U3⟩
  have B3 := Lib.hid (upd_below B2.out U3 hb hbw hbm (Nat.le_refl _))
  clear U3
  go_wp2_with fail
  refine (free_res r3 (hT.out.below B3.out) 0 (some 1) (by decide)).mono ?_
  rintro e w3' ⟨rfl, rfl⟩
  go_wp2_with fail
  refine (drop_res r3 (by omega) 0 0 false (by decide) (by decide)).mono ?_
  rintro e w4 ⟨rfl, r4, U4⟩
  have B4 := Lib.hid (upd_below B3.out U4 hb hbw hbm (Nat.le_refl _))
  clear U4
  go_wp2_with fail
  refine (drop_res r4 (by omega) 0 0 true (by decide) (by decide)).mono ?_
  rintro e w5 ⟨rfl, r5, U5⟩
  have B5 := Lib.hid (upd_below B4.out U5 hb hbw hbm (Nat.le_refl _))
  clear U5
  go_wp2_with fail
  refine (drop_res r5 (by omega) 0 7 false (by decide) (by decide)).mono ?_
  rintro e w6 ⟨rfl, r6, U6⟩
  have B6 := Lib.hid (upd_below B5.out U6 hb hbw hbm (Nat.le_refl _))
  clear U6
  go_wp2_with fail
  refine (taken_any r6).mono ?_
  rintro e w7 ⟨rfl, rfl⟩
  rw [show tk (dropL 2 (dropL 2 (dropL 2 (holdL 2 (holdL 2 (fun _ => 0) 0) 0) 0) 0) 0) 2 = 0 by decide]
  go_wp2_with fail
  go_ret
  exact ⟨rfl, B6.out⟩

end Go.Proofs.YtccaajbkondkaaaDoor
