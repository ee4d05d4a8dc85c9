/-
  BitsFirst: the walk. The table of math/bits stands in the world: the one condition.
-/
import Derived.Test.YtccaajbkondkaaaDoorPlayed
namespace Go.Proofs.YtccaajbkondkaaaDoor
open Go.RowKit Go.Maps

/-- k is not ahead of g. -/
def From (g k : Nat) : Prop := g ≤ k

theorem times_val {w : World} {b bw bm n m : Nat} {L : Nat → Nat} (hr : RowAt w b bw bm n m L) (i : Nat) (hi : i < n) (v : Nat) (hv : L i = v) :
    Calls Tryd.prog 22 #[.pointer (some ⟨b, 0, none⟩), .int .i64 i] w fun e w' => e = .returned (.int .i64 v) ∧ w = w' := by
  subst hv; exact times_in hr i hi

set_option maxRecDepth 100000 in
set_option maxHeartbeats 400000 in
theorem first_any (w : World) (hT : TabAt w) (ao : Option Addr) (len cap : Nat) (hlen : len ≤ maxLen) (K I : Nat → Int) (ho : OpsAt w ao len K I) (fi : Int) :
    Calls Tryd.prog 4 #[.slice ao len cap, .int .i64 fi] w fun e w' => e = .returned (.bool true) ∧ Below w.heap.size w w' := by
  have c1 := Lib.hid (played_any w hT ao len cap hlen K I ho)
  replace hT := Lib.hid hT
  clear ho
  go_enter Tryd.func4, Tryd.ntmps4
  go_wp2_with fail
  refine c1.out.mono ?_
  rintro e w1 ⟨b, bw, bm, m, hb, hbw, hbm, rfl, hm, hr, hB⟩
  generalize play12 150 K I (min len 150) = L at hr
  have ff := ffree_first L fi.toNat 150
  generalize ho : ffree L fi.toNat 150 = o at ff
  have cf := Lib.hid (free_res hr (hT.out.below hB) fi o ho)
  have hT1 := Lib.hid (hT.out.below hB)
  have cs := Lib.hid (size_at hr)
  have ca := Lib.hid (alive_any w1 (hT.out.below hB))
  replace ho := Lib.hid ho
  replace hB := Lib.hid hB
  have hr0 := Lib.hid hr
  clear hr
  cases o with
  | some at_ =>
    obtain ⟨f1, f2, f3, f4⟩ := ff
    replace f4 := Lib.hid f4
    have t3 := Lib.hid (fun (w2 : World) (hB2 : Below w1.heap.size w1 w2) => times_val (hr0.out.stay (S := fun _ => False) (Upd.of_below hB2) id id id) at_ f2 0 f3)
    clear f3
    go_wp2_with fail
    refine cf.out.mono ?_
    rintro e w2 ⟨rfl, rfl⟩
    simp only [Option.getD_some, Option.isSome_some]
    by_cases hf : fi < 0
    · rw [show fi.toNat = 0 by omega] at f1 f4
      go_wp2_with fail
      go_loop [9] (fun i => ∃ k : Nat, 0 ≤ k ∧ k ≤ at_ ∧ i = .int .i64 k) (fun i => 150 - (intOf i).toNat)
      case atStart => exact ⟨0, Nat.le_refl _, f1, rfl⟩
      case round =>
        obtain ⟨k, hk, hk2, rfl⟩ := hrel
        by_cases e : k = at_
        · subst e
          go_wp2_with fail
          refine cs.out.mono ?_
          rintro e w2 ⟨rfl, rfl⟩
          go_wp2_with fail
          refine ca.out.mono ?_
          rintro e w2 ⟨rfl, hB2⟩
          have t4 := Lib.hid (t3.out w2 hB2)
          have hB3 := Lib.hid (hB.out.trans (hB2.mono hB.out.size))
          clear hB2
          go_wp2_with fail
          refine t4.out.mono ?_
          rintro e w3 ⟨rfl, rfl⟩
          go_wp2_with fail
          go_ret
          exact ⟨rfl, hB3.out⟩
        · have hne : ((k : Int) == (at_ : Int)) = false := by simp; omega
          have hk150 : k < 150 := by omega
          have t5 := times_in hr0.out k hk150
          have hnz : ((L k : Int) == 0) = false := by have := f4.out k hk (by omega); simp; exact this
          replace t5 := Lib.hid t5
          go_wp2_with fail
          refine cs.out.mono ?_
          rintro e w2 ⟨rfl, rfl⟩
          go_wp2_with fail
          refine t5.out.mono ?_
          rintro e w2 ⟨rfl, rfl⟩
          go_wp2_with fail
          go_round
          case rel => exact ⟨k + 1, by omega, by omega, by go_num⟩
          case measure => simp [intOf]; omega
    · obtain ⟨f, rfl⟩ : ∃ f : Nat, fi = f := ⟨fi.toNat, by omega⟩
      rw [Int.toNat_natCast] at f1 f4
      go_wp2_with fail
      go_loop [9] (fun i => ∃ k : Nat, f ≤ k ∧ k ≤ at_ ∧ i = .int .i64 k) (fun i => 150 - (intOf i).toNat)
      case atStart => exact ⟨f, Nat.le_refl _, f1, rfl⟩
      case round =>
        obtain ⟨k, hk, hk2, rfl⟩ := hrel
        by_cases e : k = at_
        · subst e
          go_wp2_with fail
          refine cs.out.mono ?_
          rintro e w2 ⟨rfl, rfl⟩
          go_wp2_with fail
          refine ca.out.mono ?_
          rintro e w2 ⟨rfl, hB2⟩
          have t4 := Lib.hid (t3.out w2 hB2)
          have hB3 := Lib.hid (hB.out.trans (hB2.mono hB.out.size))
          clear hB2
          go_wp2_with fail
          refine t4.out.mono ?_
          rintro e w3 ⟨rfl, rfl⟩
          go_wp2_with fail
          go_ret
          exact ⟨rfl, hB3.out⟩
        · have hne : ((k : Int) == (at_ : Int)) = false := by simp; omega
          have hk150 : k < 150 := by omega
          have t5 := times_in hr0.out k hk150
          have hnz : ((L k : Int) == 0) = false := by have := f4.out k hk (by omega); simp; exact this
          replace t5 := Lib.hid t5
          go_wp2_with fail
          refine cs.out.mono ?_
          rintro e w2 ⟨rfl, rfl⟩
          go_wp2_with fail
          refine t5.out.mono ?_
          rintro e w2 ⟨rfl, rfl⟩
          go_wp2_with fail
          go_round
          case rel => exact ⟨k + 1, by omega, by omega, by go_num⟩
          case measure => simp [intOf]; omega
  | none =>
    replace ff : ∀ i, fi.toNat ≤ i → i < 150 → L i ≠ 0 := ff
    replace ff := Lib.hid ff
    go_wp2_with fail
    refine cf.out.mono ?_
    rintro e w2 ⟨rfl, rfl⟩
    simp only [Option.getD_none, Option.isSome_none, Int.natCast_zero]
    by_cases hf : fi < 0
    · rw [show fi.toNat = 0 by omega] at ff
      go_wp2_with fail
      go_loop [9] (fun i => ∃ k : Nat, From 0 k ∧ i = .int .i64 k) (fun i => 150 - (intOf i).toNat)
      case atStart => exact ⟨0, Nat.le_refl _, rfl⟩
      case round =>
        obtain ⟨k, hk0, rfl⟩ := hrel
        have hk : 0 ≤ k := hk0
        by_cases hk150 : k < 150
        · have t5 := times_in hr0.out k hk150
          have hnz : ((L k : Int) == 0) = false := by have := ff.out k hk hk150; simp; exact this
          replace t5 := Lib.hid t5
          go_wp2_with fail
          refine cs.out.mono ?_
          rintro e w2 ⟨rfl, rfl⟩
          go_wp2_with fail
          refine t5.out.mono ?_
          rintro e w2 ⟨rfl, rfl⟩
          go_wp2_with fail
          go_round
          case rel => exact ⟨k + 1, Nat.le_succ_of_le hk0, by go_num⟩
          case measure => simp [intOf]; omega
        · go_wp2_with fail
          refine cs.out.mono ?_
          rintro e w2 ⟨rfl, rfl⟩
          go_wp2_with fail
          refine ca.out.mono ?_
          rintro e w2 ⟨rfl, hB2⟩
          have hB3 := Lib.hid (hB.out.trans (hB2.mono hB.out.size))
          clear hB2
          go_wp2_with fail
          go_ret
          exact ⟨rfl, hB3.out⟩
    · obtain ⟨f, rfl⟩ : ∃ f : Nat, fi = f := ⟨fi.toNat, by omega⟩
      rw [Int.toNat_natCast] at ff
      go_wp2_with fail
      go_loop [9] (fun i => ∃ k : Nat, From f k ∧ i = .int .i64 k) (fun i => 150 - (intOf i).toNat)
      case atStart => exact ⟨f, Nat.le_refl _, rfl⟩
      case round =>
        obtain ⟨k, hk0, rfl⟩ := hrel
        have hk : f ≤ k := hk0
        by_cases hk150 : k < 150
        · have t5 := times_in hr0.out k hk150
          have hnz : ((L k : Int) == 0) = false := by have := ff.out k hk hk150; simp; exact this
          replace t5 := Lib.hid t5
          go_wp2_with fail
          refine cs.out.mono ?_
          rintro e w2 ⟨rfl, rfl⟩
          go_wp2_with fail
          refine t5.out.mono ?_
          rintro e w2 ⟨rfl, rfl⟩
          go_wp2_with fail
          go_round
          case rel => exact ⟨k + 1, Nat.le_succ_of_le hk0, by go_num⟩
          case measure => simp [intOf]; omega
        · go_wp2_with fail
          refine cs.out.mono ?_
          rintro e w2 ⟨rfl, rfl⟩
          go_wp2_with fail
          refine ca.out.mono ?_
          rintro e w2 ⟨rfl, hB2⟩
          have hB3 := Lib.hid (hB.out.trans (hB2.mono hB.out.size))
          clear hB2
          go_wp2_with fail
          go_ret
          exact ⟨rfl, hB3.out⟩

end Go.Proofs.YtccaajbkondkaaaDoor
