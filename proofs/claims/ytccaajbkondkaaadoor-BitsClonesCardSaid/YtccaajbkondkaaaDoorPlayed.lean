/-
  Layer 12: 'played': a row behind ops is the row that 'play' reckons. The table of math/bits stands in the world: the one condition.
-/
import Derived.Test.YtccaajbkondkaaaDoorLaw12
namespace Go.Proofs.YtccaajbkondkaaaDoor
open Go.RowKit Go.Maps

/-- One op: 0 Hold of i, 1 Drop of i, 2 a Hold of the first free place from i on. -/
def step12 (n : Nat) (L : Nat → Nat) (k i : Int) : Nat → Nat :=
  if k = 0 then holdL n L i else if k = 1 then dropL n L i else if k = 2 then (match ffree L i.toNat n with | some j => holdL n L j | .none => L) else L
/-- What a row of n places has behind the first ops. -/
def play12 (n : Nat) (K I : Nat → Int) : Nat → Nat → Nat
  | 0 => fun _ => 0
  | j + 1 => step12 n (play12 n K I j) (K j) (I j)

/-- A slice of ops in a world. -/
def OpsAt (w : World) (ao : Option Addr) (len : Nat) (K I : Nat → Int) : Prop :=
  ∀ i, i < len → ∃ ob oo, ao = some ⟨ob, oo, none⟩ ∧ w.cell? ⟨ob, oo + i * 2, none⟩ = some (.int .i64 (K i)) ∧ w.cell? ⟨ob, oo + i * 2 + 1, none⟩ = some (.int .i64 (I i))

theorem OpsAt.below {w w' : World} {ao : Option Addr} {len : Nat} {K I : Nat → Int} (h : OpsAt w ao len K I) (hB : Below w.heap.size w w') : OpsAt w' ao len K I := fun i hi => by
  obtain ⟨ob, oo, h1, h2, h3⟩ := h i hi
  exact ⟨ob, oo, h1, (hB.cell (block_lt_of_cell h2)).trans h2, (hB.cell (block_lt_of_cell h3)).trans h3⟩

def PlayedSays (len : Nat) (K I : Nat → Int) (w : World) (e : Ending) (w' : World) : Prop :=
  ∃ b bw bm m, w.heap.size ≤ b ∧ w.heap.size ≤ bw ∧ w.heap.size ≤ bm ∧ e = .returned (.tuple #[.pointer (some ⟨b, 0, none⟩), .bool true]) ∧ m ≤ 150 ∧ RowAt w' b bw bm 150 m (play12 150 K I (min len 150)) ∧ Below w.heap.size w w'

set_option maxRecDepth 100000 in
theorem played_any (w : World) (hT : TabAt w) (ao : Option Addr) (len cap : Nat) (hlen : len ≤ maxLen) (K I : Nat → Int) (ho : OpsAt w ao len K I) :
    Calls Tryd.prog 27 #[.slice ao len cap] w (PlayedSays len K I w) := by
  have c1 := Lib.hid (bnew_ok 150 w (by omega) (by omega))
  replace hT := Lib.hid hT
  replace ho := Lib.hid ho
  unfold maxLen at hlen
  go_enter Tryd.func27, Tryd.ntmps27
  go_wp2_with fail
  refine c1.out.mono ?_
  rintro e w1 ⟨b, bw, bm, hb, hbw, hbm, rfl, r1, B1⟩
  replace r1 := Lib.hid r1
  replace B1 := Lib.hid B1
  go_wp2_with fail
  go_loopw [6] (fun i wr => ∃ (k m : Nat), k ≤ len ∧ k ≤ 150 ∧ m ≤ k ∧ i = .int .i64 k ∧ RowAt wr b bw bm 150 m (play12 150 K I k) ∧ Below w.heap.size w wr) (fun i _ => 150 - (intOf i).toNat)
  case atStart => exact ⟨0, 0, Nat.zero_le _, Nat.zero_le _, Nat.le_refl _, rfl, r1.out, B1.out⟩
  case round =>
    obtain ⟨k, m, hk, hk2, hm, rfl, hr, hB⟩ := hrel
    by_cases hlt : k < len
    · by_cases hlt2 : k < 150
      · have hTr := Lib.hid (hT.out.below hB)
        obtain ⟨ob, oo, rfl, ck, ci⟩ := (ho.out.below hB) k hlt
        have es : play12 150 K I (k + 1) = step12 150 (play12 150 K I k) (K k) (I k) := rfl
        generalize play12 150 K I k = L at hr es
        generalize K k = kk at ck es
        generalize I k = ii at ci es
        have fin : ∀ w2 L', RowAt w2 b bw bm 150 (m + 1) L' → Upd (Three b bw bm) wr w2 → step12 150 L kk ii = L' → ∃ (k' m' : Nat), k' ≤ len ∧ k' ≤ 150 ∧ m' ≤ k' ∧ Value.int .i64 ((k : Int) + 1) = .int .i64 k' ∧ RowAt w2 b bw bm 150 m' (play12 150 K I k') ∧ Below w.heap.size w w2 :=
          fun w2 L' a u e => ⟨k + 1, m + 1, by omega, by omega, by omega, by go_num, by rw [es, e]; exact a, upd_below hB u hb hbw hbm (Nat.le_refl _)⟩
        replace fin := Lib.hid fin
        replace es := Lib.hid es
        replace hB := Lib.hid hB
        have hh := Lib.hid (hold_any hr (by omega))
        have hd := Lib.hid (drop_any hr (by omega))
        have hf := Lib.hid (fun f => free_res hr hTr.out f _ rfl)
        have hr0 := Lib.hid hr
        clear hr
        by_cases k0 : kk = 0
        · subst k0
          go_wp2_with fail
          refine (hh.out _).mono ?_
          rintro e w2 ⟨rfl, h2, h3⟩
          replace h2 := Lib.hid h2
          replace h3 := Lib.hid h3
          go_wp2_with fail
          go_roundw
          case rel => exact fin.out _ _ h2.out h3.out (by unfold step12; rw [if_pos rfl])
          case measure => simp [intOf]; omega
        · have q0 : (kk == 0) = false := by simp; omega
          by_cases k1 : kk = 1
          · subst k1
            clear q0
            go_wp2_with fail
            refine (hd.out _).mono ?_
            rintro e w2 ⟨rfl, h2, h3⟩
            replace h2 := Lib.hid h2
            replace h3 := Lib.hid h3
            go_wp2_with fail
            go_roundw
            case rel => exact fin.out _ _ h2.out h3.out (by unfold step12; rw [if_neg (by omega), if_pos rfl])
            case measure => simp [intOf]; omega
          · have q1 : (kk == 1) = false := by simp; omega
            by_cases k2 : kk = 2
            · subst k2
              clear q0 q1
              cases hfr : ffree L ii.toNat 150 with
              | some j =>
                have f1 := hf.out ii
                rw [hfr] at f1
                replace f1 := Lib.hid f1
                replace hfr := Lib.hid hfr
                go_wp2_with fail
                refine f1.out.mono ?_
                rintro e w2 ⟨rfl, rfl⟩
                simp only [Option.getD_some, Option.isSome_some]
                go_wp2_with fail
                refine (hh.out _).mono ?_
                rintro e w2 ⟨rfl, h2, h3⟩
                replace h2 := Lib.hid h2
                replace h3 := Lib.hid h3
                go_wp2_with fail
                go_roundw
                case rel => exact fin.out _ _ h2.out h3.out (by unfold step12; rw [if_neg (by omega), if_neg (by omega), if_pos rfl, hfr.out])
                case measure => simp [intOf]; omega
              | none =>
                have f1 := hf.out ii
                rw [hfr] at f1
                replace f1 := Lib.hid f1
                replace hfr := Lib.hid hfr
                go_wp2_with fail
                refine f1.out.mono ?_
                rintro e w2 ⟨rfl, rfl⟩
                simp only [Option.getD_none, Option.isSome_none]
                go_wp2_with fail
                go_roundw
                case rel => exact fin.out _ _ (hr0.out.mono (by omega)) (Upd.refl _ _) (by unfold step12; rw [if_neg (by omega), if_neg (by omega), if_pos rfl, hfr.out])
                case measure => simp [intOf]; omega
            · have q2 : (kk == 2) = false := by simp; omega
              go_wp2_with fail
              go_roundw
              case rel => exact fin.out _ _ (hr0.out.mono (by omega)) (Upd.refl _ _) (by unfold step12; rw [if_neg k0, if_neg k1, if_neg k2])
              case measure => simp [intOf]; omega
      · obtain rfl : k = 150 := by omega
        have fin : PlayedSays len K I w (.returned (.tuple #[.pointer (some ⟨b, 0, none⟩), .bool true])) wr :=
          ⟨b, bw, bm, m, hb, hbw, hbm, rfl, hm, by rw [Nat.min_eq_right (by omega)]; exact hr, hB⟩
        replace fin := Lib.hid fin
        replace hr := Lib.hid hr
        replace hB := Lib.hid hB
        go_wp2_with fail
        go_ret2
        exact fin.out
    · obtain rfl : k = len := by omega
      have fin : PlayedSays k K I w (.returned (.tuple #[.pointer (some ⟨b, 0, none⟩), .bool true])) wr :=
        ⟨b, bw, bm, m, hb, hbw, hbm, rfl, by omega, by rw [Nat.min_eq_left hk2]; exact hr, hB⟩
      replace fin := Lib.hid fin
      replace hr := Lib.hid hr
      replace hB := Lib.hid hB
      go_wp2_with fail
      go_ret2
      exact fin.out

end Go.Proofs.YtccaajbkondkaaaDoor
