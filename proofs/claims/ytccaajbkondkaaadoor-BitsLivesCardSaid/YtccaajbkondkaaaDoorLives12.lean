/-
  BitsLives: the walk. The table of math/bits stands in the world: the one condition.
-/
import Derived.Test.YtccaajbkondkaaaDoorCounts12
import Derived.Deep.RegionHeld3
namespace Go.Proofs.YtccaajbkondkaaaDoor
open Go.RowKit Go.Maps

/-- The row and the reference's row, holding alike. -/
def Pair12 (w : World) (n : Nat) (b bw bm c cl k : Nat) (wr : World) : Prop :=
  ∃ (L : Nat → Nat), RowAt wr b bw bm n k L ∧ RefAt wr c cl n L ∧ Below w.heap.size w wr

/-- The two rows, and the op that was copied, in the middle of a round. -/
def Mid12 (w : World) (n b bw bm c cl ob k : Nat) (L1 L2 : Nat → Nat) (kk ii : Int) (y : World) : Prop :=
  RowAt y b bw bm n k L1 ∧ RefAt y c cl n L2 ∧ y.cell? ⟨ob, 0, none⟩ = some (.int .i64 kk) ∧ y.cell? ⟨ob, 1, none⟩ = some (.int .i64 ii) ∧ Below w.heap.size w y
/-- Whose blocks are whose. -/
structure Far (w : World) (b bw bm c cl ob : Nat) : Prop where
  b1 : w.heap.size ≤ b
  b2 : w.heap.size ≤ bw
  b3 : w.heap.size ≤ bm
  c1 : w.heap.size ≤ c
  c2 : w.heap.size ≤ cl
  x1 : ¬ Three b bw bm c
  x2 : ¬ Three b bw bm cl
  y1 : ¬ Three b bw bm ob
  y2 : ¬ Two c cl ob
theorem Far.z {w : World} {b bw bm c cl ob : Nat} (f : Far w b bw bm c cl ob) : ¬ Two c cl b ∧ ¬ Two c cl bw ∧ ¬ Two c cl bm := by
  have h1 := f.x1; have h2 := f.x2
  unfold Three at h1 h2; unfold Two; omega
theorem upd_below2 {B : Nat} {w w1 w2 : World} {c cl : Nat} (h : Below B w w1) (u : Upd (Two c cl) w1 w2) (h1 : B ≤ c) (h2 : B ≤ cl) (hB : B ≤ w.heap.size) : Below B w w2 :=
  h.trans (u.below (fun k hk hs => by unfold Two at hs; omega) (Nat.le_trans hB h.size))
theorem Mid12.row {w : World} {n b bw bm c cl ob k k' : Nat} {L1 L2 L1' : Nat → Nat} {kk ii : Int} {y y' : World} (f : Far w b bw bm c cl ob) (h : Mid12 w n b bw bm c cl ob k L1 L2 kk ii y) (a : RowAt y' b bw bm n k' L1') (u : Upd (Three b bw bm) y y') :
    Mid12 w n b bw bm c cl ob k' L1' L2 kk ii y' :=
  ⟨a, h.2.1.stay u f.x1 f.x2, (u.cell (p := ⟨ob, 0, none⟩) (block_lt_of_cell h.2.2.1) f.y1).trans h.2.2.1, (u.cell (p := ⟨ob, 1, none⟩) (block_lt_of_cell h.2.2.2.1) f.y1).trans h.2.2.2.1, upd_below h.2.2.2.2 u f.b1 f.b2 f.b3 (Nat.le_refl _)⟩
theorem Mid12.ref {w : World} {n b bw bm c cl ob k : Nat} {L1 L2 L2' : Nat → Nat} {kk ii : Int} {y y' : World} (f : Far w b bw bm c cl ob) (h : Mid12 w n b bw bm c cl ob k L1 L2 kk ii y) (a : RefAt y' c cl n L2') (u : Upd (Two c cl) y y') :
    Mid12 w n b bw bm c cl ob k L1 L2' kk ii y' :=
  ⟨h.1.stay u f.z.1 f.z.2.1 f.z.2.2, a, (u.cell (p := ⟨ob, 0, none⟩) (block_lt_of_cell h.2.2.1) f.y2).trans h.2.2.1, (u.cell (p := ⟨ob, 1, none⟩) (block_lt_of_cell h.2.2.2.1) f.y2).trans h.2.2.2.1, upd_below2 h.2.2.2.2 u f.c1 f.c2 (Nat.le_refl _)⟩
theorem Mid12.drew {w : World} {n b bw bm c cl ob k : Nat} {L1 L2 : Nat → Nat} {kk ii : Int} {y : World} (h : Mid12 w n b bw bm c cl ob k L1 L2 kk ii y) : Mid12 w n b bw bm c cl ob k L1 L2 kk ii y.drew :=
  ⟨h.1.drew, h.2.1.drew, h.2.2.1, h.2.2.2.1, h.2.2.2.2.drew⟩
theorem Mid12.drewN {w : World} {n b bw bm c cl ob k : Nat} {L1 L2 : Nat → Nat} {kk ii : Int} {y : World} (h : Mid12 w n b bw bm c cl ob k L1 L2 kk ii y) (nq : Nat) : Mid12 w n b bw bm c cl ob k L1 L2 kk ii (y.drewN nq) :=
  ⟨⟨h.1.lo, h.1.hi, h.1.off, h.1.most, h.1.row, h.1.words, h.1.map⟩, h.2.1.drewN nq, h.2.2.1, h.2.2.2.1, ⟨h.2.2.2.2.os, h.2.2.2.2.tape, h.2.2.2.2.output, h.2.2.2.2.size, h.2.2.2.2.block⟩⟩
theorem mid_hold {w : World} {n b bw bm c cl ob k : Nat} {L1 L2 : Nat → Nat} {kk ii : Int} {y : World} (f : Far w b bw bm c cl ob) (h : Mid12 w n b bw bm c cl ob k L1 L2 kk ii y) (hk : k < 1000) (i : Int) :
    Calls Tryd.prog 18 #[.pointer (some ⟨b, 0, none⟩), .int .i64 i] y fun e y' => e = .returned (.int .i64 (holdRes n L1 i)) ∧ Mid12 w n b bw bm c cl ob (k + 1) (holdL n L1 i) L2 kk ii y' :=
  (hold_any h.1 (by omega) i).mono fun _ _ ⟨h1, h2, h3⟩ => ⟨h1, h.row f h2 h3⟩
theorem mid_drop {w : World} {n b bw bm c cl ob k : Nat} {L1 L2 : Nat → Nat} {kk ii : Int} {y : World} (f : Far w b bw bm c cl ob) (h : Mid12 w n b bw bm c cl ob k L1 L2 kk ii y) (hk : k < 1000) (i : Int) :
    Calls Tryd.prog 20 #[.pointer (some ⟨b, 0, none⟩), .int .i64 i] y fun e y' => e = .returned (.tuple #[.bool (dropFree n L1 i), .int .i64 (dropRes n L1 i)]) ∧ Mid12 w n b bw bm c cl ob (k + 1) (dropL n L1 i) L2 kk ii y' :=
  (drop_any h.1 (by omega) i).mono fun _ _ ⟨h1, h2, h3⟩ => ⟨h1, h.row f h2 h3⟩
theorem mid_rhold {w : World} {n b bw bm c cl ob k : Nat} {L1 L2 : Nat → Nat} {kk ii : Int} {y : World} (f : Far w b bw bm c cl ob) (h : Mid12 w n b bw bm c cl ob k L1 L2 kk ii y) (i : Int) :
    Calls Tryd.prog 19 #[.pointer (some ⟨c, 0, none⟩), .int .i64 i] y fun e y' => e = .returned (.int .i64 (holdRes n L2 i)) ∧ Mid12 w n b bw bm c cl ob k L1 (holdL n L2 i) kk ii y' :=
  (rhold_any h.2.1 i).mono fun _ _ ⟨h1, h2, h3⟩ => ⟨h1, h.ref f h2 h3⟩
theorem mid_rdrop {w : World} {n b bw bm c cl ob k : Nat} {L1 L2 : Nat → Nat} {kk ii : Int} {y : World} (f : Far w b bw bm c cl ob) (h : Mid12 w n b bw bm c cl ob k L1 L2 kk ii y) (i : Int) :
    Calls Tryd.prog 21 #[.pointer (some ⟨c, 0, none⟩), .int .i64 i] y fun e y' => e = .returned (.tuple #[.bool (dropFree n L2 i), .int .i64 (dropRes n L2 i)]) ∧ Mid12 w n b bw bm c cl ob k L1 (dropL n L2 i) kk ii y' :=
  (rdrop_any h.2.1 i).mono fun _ _ ⟨h1, h2, h3⟩ => ⟨h1, h.ref f h2 h3⟩

set_option maxRecDepth 100000 in
theorem lives_great (size : Int) (ao : Option Addr) (len cap : Nat) (ask : Int) (w : World) (hT : TabAt w) (h1 : 500 < size) (h2 : size ≤ 65536) :
    Calls Tryd.prog 3 #[.int .i64 size, .slice ao len cap, .int .i64 ask] w fun e w' => e = .returned (.bool true) ∧ Below w.heap.size w w' := by
  have ca := Lib.hid (alive_any w hT)
  replace hT := Lib.hid hT
  go_enter Tryd.func3, Tryd.ntmps3
  go_wp2_with fail
  refine ca.out.mono ?_
  rintro e w1 ⟨rfl, hB⟩
  replace hB := Lib.hid hB
  go_wp2_with fail
  go_ret
  exact ⟨rfl, hB.out⟩

set_option maxRecDepth 100000 in
theorem lives_none (size : Int) (ao : Option Addr) (len cap : Nat) (ask : Int) (w : World) (hT : TabAt w) (h : size < 1 ∨ 65536 < size) :
    Calls Tryd.prog 3 #[.int .i64 size, .slice ao len cap, .int .i64 ask] w fun e w' => e = .returned (.bool true) ∧ Below w.heap.size w w' := by
  have ca := Lib.hid (alive_any w hT)
  have n1 := Lib.hid (bnew_bad size w h)
  have n2 := Lib.hid (rnew_bad size w h)
  replace hT := Lib.hid hT
  rcases h with h | h
  · go_enter Tryd.func3, Tryd.ntmps3
    go_wp2_with fail
    refine n1.out.mono ?_
    rintro e w1 ⟨rfl, rfl⟩
    go_wp2_with fail
    refine n2.out.mono ?_
    rintro e w1 ⟨rfl, rfl⟩
    go_wp2_with fail
    go_loopw [11] (fun i wr => i = .int .i64 0 ∧ wr = w) (fun _ _ => 0)
    case atStart => exact ⟨rfl, rfl⟩
    case round =>
      obtain ⟨rfl, rfl⟩ := hrel
      by_cases hl : 0 < len
      · go_wp2_with fail
        refine ca.out.mono ?_
        rintro e w1 ⟨rfl, hB⟩
        replace hB := Lib.hid hB
        go_wp2_with fail
        go_ret
        exact ⟨rfl, hB.out⟩
      · obtain rfl : len = 0 := by omega
        go_wp2_with fail
        refine ca.out.mono ?_
        rintro e w1 ⟨rfl, hB⟩
        replace hB := Lib.hid hB
        go_wp2_with fail
        go_ret
        exact ⟨rfl, hB.out⟩
  · have h1 : ¬ size < 1 := by omega
    have h2 : ¬ size ≤ 500 := by omega
    have h3 : ¬ size ≤ 65536 := by omega
    go_enter Tryd.func3, Tryd.ntmps3
    go_wp2_with fail
    refine n1.out.mono ?_
    rintro e w1 ⟨rfl, rfl⟩
    go_wp2_with fail
    refine n2.out.mono ?_
    rintro e w1 ⟨rfl, rfl⟩
    go_wp2_with fail
    go_loopw [11] (fun i wr => i = .int .i64 0 ∧ wr = w) (fun _ _ => 0)
    case atStart => exact ⟨rfl, rfl⟩
    case round =>
      obtain ⟨rfl, rfl⟩ := hrel
      by_cases hl : 0 < len
      · go_wp2_with fail
        refine ca.out.mono ?_
        rintro e w1 ⟨rfl, hB⟩
        replace hB := Lib.hid hB
        go_wp2_with fail
        go_ret
        exact ⟨rfl, hB.out⟩
      · obtain rfl : len = 0 := by omega
        go_wp2_with fail
        refine ca.out.mono ?_
        rintro e w1 ⟨rfl, hB⟩
        replace hB := Lib.hid hB
        go_wp2_with fail
        go_ret
        exact ⟨rfl, hB.out⟩

set_option maxRecDepth 100000 in
set_option maxHeartbeats 4000000 in
theorem lives_any (n : Nat) (hn1 : 1 ≤ n) (hn2 : n ≤ 500) (w : World) (hT : TabAt w) (ao : Option Addr) (len cap : Nat) (_hlen : len ≤ maxLen) (K I : Nat → Int) (ho : OpsAt w ao len K I) (ask : Int) :
    Calls Tryd.prog 3 #[.int .i64 n, .slice ao len cap, .int .i64 ask] w fun e w' => e = .returned (.bool true) ∧ Below w.heap.size w w' := by
  have c1 := Lib.hid (bnew_ok n w hn1 (by omega))
  have c2 := Lib.hid (fun x => rnew_ok n x hn1 (by omega))
  replace hT := Lib.hid hT
  replace ho := Lib.hid ho
  unfold maxLen at _hlen
  go_enter Tryd.func3, Tryd.ntmps3
  go_wp2_with fail
  refine c1.out.mono ?_
  rintro e w1 ⟨b, bw, bm, hb, hbw, hbm, rfl, hr, hB⟩
  have hbl := lt_of_block hr.row
  have hbwl := lt_of_block hr.words
  have hbml : bm < w1.heap.size := by obtain ⟨D, hD, _⟩ := hr.map; exact hD.lt
  replace hr := Lib.hid hr
  replace hB := Lib.hid hB
  go_wp2_with fail
  refine (c2.out w1).mono ?_
  rintro e w2 ⟨c, cl, hc, hcl, rfl, hx, hB2⟩
  have start : Pair12 w n b bw bm c cl 0 w2 := ⟨_, hr.out.stay (S := fun _ => False) (Upd.of_below hB2) id id id, hx, hB.out.trans (hB2.mono hB.out.size)⟩
  have hs := hB.out.size
  replace start := Lib.hid start
  clear hx hB2
  go_wp2_with fail
  go_loopw [11] (fun i wr => ∃ k : Nat, k ≤ len ∧ k ≤ 200 ∧ i = .int .i64 k ∧ Pair12 w n b bw bm c cl k wr) (fun i _ => 200 - (intOf i).toNat)
  case atStart => exact ⟨0, Nat.zero_le _, Nat.zero_le _, rfl, start.out⟩
  case round =>
    obtain ⟨k, hk, hk2, rfl, L, x1, x2, xB⟩ := hrel
    have xs := xB.size
    have ca := Lib.hid (alive_any wr (hT.out.below xB))
    by_cases hlt : k < len ∧ k < 200
    · obtain ⟨hlt1, hlt2⟩ := hlt
      obtain ⟨ob, oo, rfl, ck, ci⟩ := (ho.out.below xB) k hlt1
      generalize K k = kk at ck
      generalize I k = ii at ci
      obtain ⟨wo, hwo⟩ : ∃ wo, wo = wr.alloc (.cells #[.int .i64 kk, .int .i64 ii] 32) := ⟨_, rfl⟩
      have uo : Below wr.heap.size wr wo := by rw [hwo]; exact (Below.refl _ _).alloc (Nat.le_refl _) _
      have g0 : wo.cell? ⟨wr.heap.size, 0, none⟩ = some (.int .i64 kk) := by rw [hwo]; simp
      have g1 : wo.cell? ⟨wr.heap.size, 1, none⟩ = some (.int .i64 ii) := by rw [hwo]; simp
      have y1 : RowAt wo b bw bm n k L := x1.stay (S := fun _ => False) (Upd.of_below uo) id id id
      have y2 : RefAt wo c cl n L := x2.stay (S := fun _ => False) (Upd.of_below uo) id id
      have yB : Below w.heap.size w wo := xB.trans (uo.mono xs)
      have f1 := free_res y1 (hT.out.below yB) ii _ rfl
      have f2 := rfree_res y2 ii _ rfl
      have mid : Mid12 w n b bw bm c cl wr.heap.size k L L kk ii wo := ⟨y1, y2, g0, g1, yB⟩
      replace mid := Lib.hid mid
      replace hwo := Lib.hid hwo
      have far : Far w b bw bm c cl wr.heap.size := by
        have e1 := lt_of_block x1.row
        have e2 := lt_of_block x1.words
        have e3 : bm < wr.heap.size := by obtain ⟨D, hD, _⟩ := x1.map; exact hD.lt
        have e4 := lt_of_block x2.row
        have e5 := lt_of_block x2.ints
        exact ⟨hb, hbw, hbm, by omega, by omega, by unfold Three; omega, by unfold Three; omega, by unfold Three; omega, by unfold Two; omega⟩
      replace far := Lib.hid far
      clear x1 x2 xB uo y1 y2 yB
      by_cases k0 : kk = 0
      · subst k0
        replace f1 := Lib.hid f1
        replace f2 := Lib.hid f2
        have m1 := Lib.hid (mid_hold far.out mid.out.drew (by omega) ii)
        go_wp2_with fail
        rw [← hwo.out]
        refine f1.out.mono ?_
        rintro e w3 ⟨rfl, rfl⟩
        go_wp2_with fail
        refine f2.out.mono ?_
        rintro e w3 ⟨rfl, rfl⟩
        go_wp2_with fail
        go_region_held3 (fun w' => w'.cell? ⟨wr.heap.size, 0, none⟩ = some (.int .i64 0) ∧ w'.cell? ⟨wr.heap.size, 1, none⟩ = some (.int .i64 ii)) (first | exact ⟨g0, g1⟩ | exact ⟨g2, g3⟩ | exact ⟨g4, g5⟩) (first | (go_at_call 18; refine m1.out.mono ?_; rintro e w4 ⟨rfl, h4⟩; (have g2 := h4.2.2.1); (have g3 := h4.2.2.2.1); replace h4 := Lib.hid h4) | (go_at_call 19; refine (mid_rhold far.out h4.out ii).mono ?_; rintro e w5 ⟨rfl, h5⟩; (have g4 := h5.2.2.1); (have g5 := h5.2.2.2.1); replace h5 := Lib.hid h5))
        have t1 := Lib.hid (times_any h5.out.1 ask)
        have t2 := Lib.hid (rtimes_any h5.out.2.1 ask)
        have k1 := Lib.hid (taken_any h5.out.1)
        have k2 := Lib.hid (rtaken_any h5.out.2.1)
        have s1 := Lib.hid (size_at h5.out.1)
        go_wp2_with fail
        refine t1.out.mono ?_
        rintro e q ⟨rfl, rfl⟩
        go_wp2_with fail
        refine t2.out.mono ?_
        rintro e q ⟨rfl, rfl⟩
        go_wp2_with fail
        refine k1.out.mono ?_
        rintro e q ⟨rfl, rfl⟩
        go_wp2_with fail
        refine k2.out.mono ?_
        rintro e q ⟨rfl, rfl⟩
        go_wp2_with fail
        refine s1.out.mono ?_
        rintro e q ⟨rfl, rfl⟩
        go_wp2_with fail
        go_roundw
        case rel => exact ⟨k + 1, by omega, by omega, by go_num, _, h5.out.1.mono (by omega), h5.out.2.1, h5.out.2.2.2.2⟩
        case measure => simp [intOf]; omega
      · have q0 : (kk == 0) = false := by simp; omega
        have g0' : wo.drew.cell? ⟨wr.heap.size, 0, none⟩ = some (.int .i64 kk) := g0
        by_cases k1' : kk = 1
        · subst k1'
          replace f1 := Lib.hid f1
          replace f2 := Lib.hid f2
          have m1 := Lib.hid (fun nq => mid_drop far.out (mid.out.drewN nq) (by omega) ii)
          go_wp2_with fail
          rw [← hwo.out]
          refine f1.out.mono ?_
          rintro e w3 ⟨rfl, rfl⟩
          go_wp2_with fail
          refine f2.out.mono ?_
          rintro e w3 ⟨rfl, rfl⟩
          go_wp2_with fail
          go_quiet (fail)
          go_wp2_with fail
          refine (m1.out _).mono ?_
          rintro e w4 ⟨rfl, h4⟩
          have g2 := h4.2.2.1
          have g3 := h4.2.2.2.1
          have m2 := Lib.hid (mid_rdrop far.out h4 ii)
          replace h4 := Lib.hid h4
          go_wp2_with fail
          refine m2.out.mono ?_
          rintro e w5 ⟨rfl, h5⟩
          have g4 := h5.2.2.1
          have g5 := h5.2.2.2.1
          replace h5 := Lib.hid h5
          have t1 := Lib.hid (times_any h5.out.1 ask)
          have t2 := Lib.hid (rtimes_any h5.out.2.1 ask)
          have k1 := Lib.hid (taken_any h5.out.1)
          have k2 := Lib.hid (rtaken_any h5.out.2.1)
          have s1 := Lib.hid (size_at h5.out.1)
          go_wp2_with fail
          refine t1.out.mono ?_
          rintro e q ⟨rfl, rfl⟩
          go_wp2_with fail
          refine t2.out.mono ?_
          rintro e q ⟨rfl, rfl⟩
          go_wp2_with fail
          refine k1.out.mono ?_
          rintro e q ⟨rfl, rfl⟩
          go_wp2_with fail
          refine k2.out.mono ?_
          rintro e q ⟨rfl, rfl⟩
          go_wp2_with fail
          refine s1.out.mono ?_
          rintro e q ⟨rfl, rfl⟩
          go_wp2_with fail
          go_roundw
          case rel => exact ⟨k + 1, by omega, by omega, by go_num, _, h5.out.1.mono (by omega), h5.out.2.1, h5.out.2.2.2.2⟩
          case measure => simp [intOf]; omega
        · have q1 : (kk == 1) = false := by simp; omega
          by_cases k2' : kk = 2
          · subst k2'
            cases ho2 : ffree L ii.toNat n with
            | some j =>
              rw [ho2] at f1 f2
              simp only [Option.getD_some, Option.isSome_some] at f1 f2
              replace f1 := Lib.hid f1
              replace f2 := Lib.hid f2
              replace ho2 := Lib.hid ho2
              have m1 := Lib.hid (fun nq => mid_hold far.out (mid.out.drewN nq) (by omega) j)
              go_wp2_with fail
              rw [← hwo.out]
              refine f1.out.mono ?_
              rintro e w3 ⟨rfl, rfl⟩
              go_wp2_with fail
              refine f2.out.mono ?_
              rintro e w3 ⟨rfl, rfl⟩
              go_wp2_with fail
              go_quiet (fail)
              go_wp2_with fail
              refine (m1.out _).mono ?_
              rintro e w4 ⟨rfl, h4⟩
              have m2 := Lib.hid (mid_rhold far.out h4 j)
              replace h4 := Lib.hid h4
              go_wp2_with fail
              refine m2.out.mono ?_
              rintro e w5 ⟨rfl, h5⟩
              replace h5 := Lib.hid h5
              have t1 := Lib.hid (times_any h5.out.1 ask)
              have t2 := Lib.hid (rtimes_any h5.out.2.1 ask)
              have k1 := Lib.hid (taken_any h5.out.1)
              have k2 := Lib.hid (rtaken_any h5.out.2.1)
              have s1 := Lib.hid (size_at h5.out.1)
              go_wp2_with fail
              refine t1.out.mono ?_
              rintro e q ⟨rfl, rfl⟩
              go_wp2_with fail
              refine t2.out.mono ?_
              rintro e q ⟨rfl, rfl⟩
              go_wp2_with fail
              refine k1.out.mono ?_
              rintro e q ⟨rfl, rfl⟩
              go_wp2_with fail
              refine k2.out.mono ?_
              rintro e q ⟨rfl, rfl⟩
              go_wp2_with fail
              refine s1.out.mono ?_
              rintro e q ⟨rfl, rfl⟩
              go_wp2_with fail
              go_roundw
              case rel => exact ⟨k + 1, by omega, by omega, by go_num, _, h5.out.1.mono (by omega), h5.out.2.1, h5.out.2.2.2.2⟩
              case measure => simp [intOf]; omega
            | none =>
              rw [ho2] at f1 f2
              simp only [Option.getD_none, Option.isSome_none, Int.natCast_zero] at f1 f2
              replace f1 := Lib.hid f1
              replace f2 := Lib.hid f2
              replace ho2 := Lib.hid ho2
              have m1 := Lib.hid (fun nq => mid.out.drewN nq)
              go_wp2_with fail
              rw [← hwo.out]
              refine f1.out.mono ?_
              rintro e w3 ⟨rfl, rfl⟩
              go_wp2_with fail
              refine f2.out.mono ?_
              rintro e w3 ⟨rfl, rfl⟩
              go_wp2_with fail
              go_quiet (fail)
              have h5 := Lib.hid (m1.out nq)
              have t1 := Lib.hid (times_any h5.out.1 ask)
              have t2 := Lib.hid (rtimes_any h5.out.2.1 ask)
              have k1 := Lib.hid (taken_any h5.out.1)
              have k2 := Lib.hid (rtaken_any h5.out.2.1)
              have s1 := Lib.hid (size_at h5.out.1)
              go_wp2_with fail
              refine t1.out.mono ?_
              rintro e q ⟨rfl, rfl⟩
              go_wp2_with fail
              refine t2.out.mono ?_
              rintro e q ⟨rfl, rfl⟩
              go_wp2_with fail
              refine k1.out.mono ?_
              rintro e q ⟨rfl, rfl⟩
              go_wp2_with fail
              refine k2.out.mono ?_
              rintro e q ⟨rfl, rfl⟩
              go_wp2_with fail
              refine s1.out.mono ?_
              rintro e q ⟨rfl, rfl⟩
              go_wp2_with fail
              go_roundw
              case rel => exact ⟨k + 1, by omega, by omega, by go_num, _, h5.out.1.mono (by omega), h5.out.2.1, h5.out.2.2.2.2⟩
              case measure => simp [intOf]; omega
          · have q2 : (kk == 2) = false := by simp; omega
            replace f1 := Lib.hid f1
            replace f2 := Lib.hid f2
            have m1 := Lib.hid (fun nq => mid.out.drewN nq)
            go_wp2_with fail
            rw [← hwo.out]
            refine f1.out.mono ?_
            rintro e w3 ⟨rfl, rfl⟩
            go_wp2_with fail
            refine f2.out.mono ?_
            rintro e w3 ⟨rfl, rfl⟩
            go_wp2_with fail
            go_quiet (fail)
            have h5 := Lib.hid (m1.out nq)
            have t1 := Lib.hid (times_any h5.out.1 ask)
            have t2 := Lib.hid (rtimes_any h5.out.2.1 ask)
            have k1 := Lib.hid (taken_any h5.out.1)
            have k2 := Lib.hid (rtaken_any h5.out.2.1)
            have s1 := Lib.hid (size_at h5.out.1)
            go_wp2_with fail
            refine t1.out.mono ?_
            rintro e q ⟨rfl, rfl⟩
            go_wp2_with fail
            refine t2.out.mono ?_
            rintro e q ⟨rfl, rfl⟩
            go_wp2_with fail
            refine k1.out.mono ?_
            rintro e q ⟨rfl, rfl⟩
            go_wp2_with fail
            refine k2.out.mono ?_
            rintro e q ⟨rfl, rfl⟩
            go_wp2_with fail
            refine s1.out.mono ?_
            rintro e q ⟨rfl, rfl⟩
            go_wp2_with fail
            go_roundw
            case rel => exact ⟨k + 1, by omega, by omega, by go_num, _, h5.out.1.mono (by omega), h5.out.2.1, h5.out.2.2.2.2⟩
            case measure => simp [intOf]; omega
    · have fin : ∀ y, Below wr.heap.size wr y → Below w.heap.size w y := fun y h => xB.trans (h.mono xs)
      replace fin := Lib.hid fin
      replace x1 := Lib.hid x1
      replace x2 := Lib.hid x2
      replace xB := Lib.hid xB
      by_cases hlen2 : k < len
      · have h200 : ¬ k < 200 := fun h => hlt ⟨hlen2, h⟩
        clear hlt
        go_wp2_with fail
        refine ca.out.mono ?_
        rintro e y ⟨rfl, hB3⟩
        have fin2 := Lib.hid (fin.out y hB3)
        clear hB3
        go_wp2_with fail
        go_ret
        exact ⟨rfl, fin2.out⟩
      · clear hlt
        go_wp2_with fail
        refine ca.out.mono ?_
        rintro e y ⟨rfl, hB3⟩
        have fin2 := Lib.hid (fin.out y hB3)
        clear hB3
        go_wp2_with fail
        go_ret
        exact ⟨rfl, fin2.out⟩

end Go.Proofs.YtccaajbkondkaaaDoor
