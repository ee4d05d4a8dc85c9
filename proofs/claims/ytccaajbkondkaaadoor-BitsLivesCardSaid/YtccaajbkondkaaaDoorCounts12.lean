/-
  BitsCounts: the walk. The table of math/bits stands in the world: the one condition.
-/
import Derived.Test.YtccaajbkondkaaaDoorFirst12
namespace Go.Proofs.YtccaajbkondkaaaDoor
open Go.RowKit Go.Maps

theorem holdL_le {n : Nat} {L : Nat → Nat} {b : Nat} (h : ∀ j, L j ≤ b) (i : Int) : ∀ j, holdL n L i j ≤ b + 1 := by
  intro j
  unfold holdL
  split
  · have := h j; omega
  · split
    · have := h j; omega
    · by_cases e : j = i.toNat
      · subst e; rw [up_same]; have := h i.toNat; omega
      · rw [up_other _ _ e]; have := h j; omega
theorem dropL_le {n : Nat} {L : Nat → Nat} {b : Nat} (h : ∀ j, L j ≤ b) (i : Int) : ∀ j, dropL n L i j ≤ b + 1 := by
  intro j
  unfold dropL
  split
  · have := h j; omega
  · by_cases e : j = i.toNat
    · subst e; rw [up_same]; have := h i.toNat; omega
    · rw [up_other _ _ e]; have := h j; omega
theorem play12_le (n : Nat) (K I : Nat → Int) : ∀ k j, play12 n K I k j ≤ k
  | 0, _ => Nat.le_refl _
  | k + 1, j => by
    have ih := play12_le n K I k
    simp only [play12, step12]
    split
    · exact holdL_le ih _ j
    · split
      · exact dropL_le ih _ j
      · split
        · cases ffree (play12 n K I k) (I k).toNat n with
          | some x => exact holdL_le ih _ j
          | none => have := ih j; simp only; omega
        · have := ih j; omega

theorem eq_res {w : World} {b bw bm n m b' bw' bm' n' m' : Nat} {L L' : Nat → Nat} (ha : RowAt w b bw bm n m L) (hb : RowAt w b' bw' bm' n' m' L') (r : Bool) (h : r = true ↔ Same n n' L L') :
    Calls Tryd.prog 29 #[.pointer (some ⟨b, 0, none⟩), .pointer (some ⟨b', 0, none⟩)] w fun e w' => e = .returned (.bool r) ∧ w = w' :=
  (equal_any ha hb).mono fun _ _ ⟨r', h1, h2, h3⟩ => by
    have : r' = r := Bool.eq_iff_iff.2 (h2.trans h.symm)
    rw [this] at h1
    exact ⟨h1, h3⟩

set_option maxRecDepth 100000 in
set_option maxHeartbeats 400000 in
theorem counts_any (w : World) (hT : TabAt w) (ao : Option Addr) (len cap : Nat) (hlen : len ≤ maxLen) (K I : Nat → Int) (ho : OpsAt w ao len K I) (at_ : Int) :
    Calls Tryd.prog 6 #[.slice ao len cap, .int .i64 at_] w fun e w' => e = .returned (.bool true) ∧ Below w.heap.size w w' := by
  have c1 := Lib.hid (played_any w hT ao len cap hlen K I ho)
  replace hT := Lib.hid hT
  clear ho
  go_enter Tryd.func6, Tryd.ntmps6
  go_wp2_with fail
  refine c1.out.mono ?_
  rintro e w1 ⟨b, bw, bm, m, hb, hbw, hbm, rfl, hm, hr, hB⟩
  have hle : ∀ j, play12 150 K I (min len 150) j ≤ 150 := fun j => by have := play12_le 150 K I (min len 150) j; omega
  generalize play12 150 K I (min len 150) = L at hr hle
  have cs := Lib.hid (size_at hr)
  have ck := Lib.hid (taken_any hr)
  have cc := Lib.hid (clone_any hr (by omega))
  have ct := Lib.hid (times_in hr)
  replace hle := Lib.hid hle
  replace hB := Lib.hid hB
  have hr0 := Lib.hid hr
  clear hr
  go_wp2_with fail
  go_loop [7, 8] (fun t i => ∃ k : Nat, k ≤ 150 ∧ t = .int .i64 (tk L k) ∧ i = .int .i64 k) (fun _ i => 150 - (intOf i).toNat)
  case atStart => exact ⟨0, Nat.zero_le _, rfl, rfl⟩
  case round =>
    obtain ⟨k, hk, rfl, rfl⟩ := hrel
    have hb2 := tk_le L k
    by_cases hlt : k < 150
    · have t1 := Lib.hid (ct.out k hlt)
      have es := tk_succ L k
      by_cases hz : 0 < L k
      · rw [if_pos hz] at es
        replace es := Lib.hid es
        go_wp2_with fail
        refine cs.out.mono ?_
        rintro e w2 ⟨rfl, rfl⟩
        go_wp2_with fail
        refine t1.out.mono ?_
        rintro e w2 ⟨rfl, rfl⟩
        go_wp2_with fail
        refine t1.out.mono ?_
        rintro e w2 ⟨rfl, rfl⟩
        go_wp2_with fail
        go_round
        case rel => exact ⟨k + 1, by omega, by rw [es.out]; go_num, by go_num⟩
        case measure => simp [intOf]; omega
      · rw [if_neg hz, Nat.add_zero] at es
        replace es := Lib.hid es
        go_wp2_with fail
        refine cs.out.mono ?_
        rintro e w2 ⟨rfl, rfl⟩
        go_wp2_with fail
        refine t1.out.mono ?_
        rintro e w2 ⟨rfl, rfl⟩
        go_wp2_with fail
        refine t1.out.mono ?_
        rintro e w2 ⟨rfl, rfl⟩
        go_wp2_with fail
        go_round
        case rel => exact ⟨k + 1, by omega, by rw [es.out]; rfl, by go_num⟩
        case measure => simp [intOf]; omega
    · obtain rfl : k = 150 := by omega
      go_wp2_with fail
      refine cs.out.mono ?_
      rintro e w2 ⟨rfl, rfl⟩
      go_wp2_with fail
      refine ck.out.mono ?_
      rintro e w2 ⟨rfl, rfl⟩
      go_wp2_with fail
      refine cc.out.mono ?_
      rintro e w2 ⟨b2, bw2, bm2, hb2, hbw2, hbm2, rfl, hr2, hB2⟩
      have hlb := lt_of_block hr0.out.row
      have hlw := lt_of_block hr0.out.words
      obtain ⟨D, hD, hM⟩ := hr0.out.map
      have hlm := hD.lt
      clear hM hD
      have hr1 : RowAt w2 b bw bm 150 m L := hr0.out.stay (S := fun _ => False) (Upd.of_below hB2) id id id
      have hBB := Lib.hid (hB.out.trans (hB2.mono hB.out.size))
      have hsz := hB.out.size
      clear hB2
      by_cases hat : at_ < 0 ∨ ((150 : Nat) : Int) ≤ at_
      · have h1 : holdRes 150 L at_ = 1 := by unfold holdRes; rw [if_pos hat]
        have h2 : holdL 150 L at_ = L := by unfold holdL; rw [if_pos hat]
        have ch := hold_res hr1 (by omega) at_ 1 h1
        rw [h2] at ch
        have ce := fun (x : World) (y : Upd (Three b bw bm) w2 x) (z : RowAt x b bw bm 150 (m + 1) L) => eq_res z (hr2.stay y (by unfold Three; omega) (by unfold Three; omega) (by unfold Three; omega)) true ⟨fun _ => ⟨rfl, fun _ => rfl⟩, fun _ => rfl⟩
        have ca := fun (x : World) (y : Upd (Three b bw bm) w2 x) => alive_any x (hT.out.below (upd_below hBB.out y hb hbw hbm (Nat.le_refl _)))
        replace ch := Lib.hid ch
        replace ce := Lib.hid ce
        replace ca := Lib.hid ca
        replace hr1 := Lib.hid hr1
        replace hr2 := Lib.hid hr2
        clear h1 h2
        have fin : ∀ x y, Upd (Three b bw bm) w2 x → Below x.heap.size x y → Below w.heap.size w y := fun x y u v => by
          have h := upd_below hBB.out u hb hbw hbm (Nat.le_refl _)
          exact h.trans (v.mono h.size)
        replace fin := Lib.hid fin
        by_cases hneg : at_ < 0
        · clear hat
          go_wp2_with fail
          refine ch.out.mono ?_
          rintro e w3 ⟨rfl, hr3, hu3⟩
          have ce3 := Lib.hid (fun (y : World) (hy : Below w3.heap.size w3 y) => ce.out y (hu3.trans (Upd.of_below (S := fun _ => False) hy) (fun _ _ h => h.elim)) (hr3.stay (S := fun _ => False) (Upd.of_below hy) id id id))
          have ca3 := Lib.hid (ca.out w3 hu3)
          have fin3 := Lib.hid (fun y => fin.out w3 y hu3)
          clear hr3 hu3
          go_wp2_with fail
          refine ca3.out.mono ?_
          rintro e w4 ⟨rfl, hB4⟩
          have ce4 := Lib.hid (ce3.out w4 hB4)
          have fin4 := Lib.hid (fin3.out w4 hB4)
          clear hB4
          go_wp2_with fail
          refine ce4.out.mono ?_
          rintro e w5 ⟨rfl, rfl⟩
          go_wp2_with fail
          go_ret
          exact ⟨rfl, fin4.out⟩
        · have hge : (150 : Int) ≤ at_ := by omega
          clear hat
          go_wp2_with fail
          refine ch.out.mono ?_
          rintro e w3 ⟨rfl, hr3, hu3⟩
          have ce3 := Lib.hid (fun (y : World) (hy : Below w3.heap.size w3 y) => ce.out y (hu3.trans (Upd.of_below (S := fun _ => False) hy) (fun _ _ h => h.elim)) (hr3.stay (S := fun _ => False) (Upd.of_below hy) id id id))
          have ca3 := Lib.hid (ca.out w3 hu3)
          have fin3 := Lib.hid (fun y => fin.out w3 y hu3)
          clear hr3 hu3
          go_wp2_with fail
          refine ca3.out.mono ?_
          rintro e w4 ⟨rfl, hB4⟩
          have ce4 := Lib.hid (ce3.out w4 hB4)
          have fin4 := Lib.hid (fin3.out w4 hB4)
          clear hB4
          go_wp2_with fail
          refine ce4.out.mono ?_
          rintro e w5 ⟨rfl, rfl⟩
          go_wp2_with fail
          go_ret
          exact ⟨rfl, fin4.out⟩
      · obtain ⟨a, rfl⟩ : ∃ a : Nat, at_ = a := ⟨at_.toNat, by omega⟩
        have ha : a < 150 := by omega
        have hla := hle.out a
        have h1 : holdRes 150 L a = 0 := by unfold holdRes; rw [if_neg hat, Int.toNat_natCast, if_neg (by omega)]
        have h2 : holdL 150 L a = up L a (L a + 1) := by unfold holdL; rw [if_neg hat, Int.toNat_natCast, if_neg (by omega)]
        have ch := hold_res hr1 (by omega) a 0 h1
        rw [h2] at ch
        have g1 : dropRes 150 (up L a (L a + 1)) a = 0 := by unfold dropRes; rw [if_neg hat, Int.toNat_natCast, up_same, if_neg (by omega)]
        have g2 : dropL 150 (up L a (L a + 1)) a = L := by
          unfold dropL; rw [if_neg hat, Int.toNat_natCast, up_same]
          funext j
          by_cases e : j = a
          · subst e; rw [up_same]; omega
          · rw [up_other _ _ e, up_other _ _ e]
        have g3 : dropFree 150 (up L a (L a + 1)) a = decide (L a = 0) := by
          unfold dropFree; rw [if_neg hat, Int.toNat_natCast, up_same, Bool.eq_iff_iff]; simp
        have keep2 := fun (x : World) (y : Upd (Three b bw bm) w2 x) => hr2.stay y (by unfold Three; omega) (by unfold Three; omega) (by unfold Three; omega)
        have e1 : ∀ x, Upd (Three b bw bm) w2 x → RowAt x b bw bm 150 (m + 1) (up L a (L a + 1)) → Calls Tryd.prog 29 #[.pointer (some ⟨b, 0, none⟩), .pointer (some ⟨b2, 0, none⟩)] x fun e w' => e = .returned (.bool false) ∧ x = w' := fun x u z =>
          eq_res z (keep2 x u) false ⟨fun h => (by cases h), fun h => by have := h.2 a; rw [up_same] at this; omega⟩
        have t1 : ∀ x, RowAt x b bw bm 150 (m + 1) (up L a (L a + 1)) → Calls Tryd.prog 22 #[.pointer (some ⟨b, 0, none⟩), .int .i64 a] x fun e w' => e = .returned (.int .i64 ((L a : Int) + 1)) ∧ x = w' := fun x z => by
          have := times_in z a ha
          rw [up_same] at this
          exact this
        have t2 : ∀ x, Upd (Three b bw bm) w2 x → Calls Tryd.prog 22 #[.pointer (some ⟨b2, 0, none⟩), .int .i64 a] x fun e w' => e = .returned (.int .i64 (L a)) ∧ x = w' := fun x u => times_in (keep2 x u) a ha
        have d1 : ∀ x, RowAt x b bw bm 150 (m + 1) (up L a (L a + 1)) → Calls Tryd.prog 20 #[.pointer (some ⟨b, 0, none⟩), .int .i64 a] x fun e w' => e = .returned (.tuple #[.bool (decide (L a = 0)), .int .i64 0]) ∧ RowAt w' b bw bm 150 (m + 1 + 1) L ∧ Upd (Three b bw bm) x w' := fun x z => by
          have := drop_res z (by omega) a 0 (decide (L a = 0)) g3 g1
          rwa [g2] at this
        have ca := fun (x : World) (y : Upd (Three b bw bm) w2 x) => alive_any x (hT.out.below (upd_below hBB.out y hb hbw hbm (Nat.le_refl _)))
        have e2 := fun (x : World) (y : Upd (Three b bw bm) w2 x) (z : RowAt x b bw bm 150 (m + 1 + 1) L) => eq_res z (keep2 x y) true ⟨fun _ => ⟨rfl, fun _ => rfl⟩, fun _ => rfl⟩
        have fin : ∀ x y, Upd (Three b bw bm) w2 x → Below x.heap.size x y → Below w.heap.size w y := fun x y u v => by
          have h := upd_below hBB.out u hb hbw hbm (Nat.le_refl _)
          exact h.trans (v.mono h.size)
        have hdec : decide (L a = 0) = ((L a : Int) == 0) := by rw [Bool.eq_iff_iff]; simp
        rw [hdec] at d1
        clear g1 g2 g3 h1 h2 hr1 hr2 keep2 hdec hat
        replace ch := Lib.hid ch
        replace e1 := Lib.hid e1
        replace t1 := Lib.hid t1
        replace t2 := Lib.hid t2
        replace d1 := Lib.hid d1
        replace ca := Lib.hid ca
        replace e2 := Lib.hid e2
        replace fin := Lib.hid fin
        go_wp2_with fail
        refine ch.out.mono ?_
        rintro e w3 ⟨rfl, hr3, hu3⟩
        have e13 := Lib.hid (e1.out w3 hu3 hr3)
        have t13 := Lib.hid (t1.out w3 hr3)
        have t23 := Lib.hid (t2.out w3 hu3)
        have d13 := Lib.hid (d1.out w3 hr3)
        replace hu3 := Lib.hid hu3
        clear hr3 e1 t1 d1
        go_wp2_with fail
        refine e13.out.mono ?_
        rintro e w4 ⟨rfl, rfl⟩
        go_wp2_with fail
        refine t13.out.mono ?_
        rintro e w4 ⟨rfl, rfl⟩
        go_wp2_with fail
        refine t23.out.mono ?_
        rintro e w4 ⟨rfl, rfl⟩
        go_wp2_with fail
        refine d13.out.mono ?_
        rintro e w4 ⟨rfl, hr4, hu4⟩
        have u4 := hu3.out.trans hu4 (fun _ _ h => h)
        have ca4 := Lib.hid (ca.out w4 u4)
        have t24 := Lib.hid (fun (y : World) (hy : Below w4.heap.size w4 y) => t2.out y (u4.trans (Upd.of_below (S := fun _ => False) hy) (fun _ _ h => h.elim)))
        have e24 := Lib.hid (fun (y : World) (hy : Below w4.heap.size w4 y) => e2.out y (u4.trans (Upd.of_below (S := fun _ => False) hy) (fun _ _ h => h.elim)) (hr4.stay (S := fun _ => False) (Upd.of_below hy) id id id))
        have fin4 := Lib.hid (fun y => fin.out w4 y u4)
        clear hr4 hu4 u4 fin e2 t2 ca
        go_wp2_with fail
        refine ca4.out.mono ?_
        rintro e w5 ⟨rfl, hB5⟩
        have t25 := Lib.hid (t24.out w5 hB5)
        have e25 := Lib.hid (e24.out w5 hB5)
        have fin5 := Lib.hid (fin4.out w5 hB5)
        clear hB5
        go_wp2_with fail
        refine t25.out.mono ?_
        rintro e w6 ⟨rfl, rfl⟩
        go_wp2_with fail
        refine e25.out.mono ?_
        rintro e w6 ⟨rfl, rfl⟩
        go_wp2_with fail
        go_ret
        exact ⟨rfl, fin5.out⟩

end Go.Proofs.YtccaajbkondkaaaDoor
