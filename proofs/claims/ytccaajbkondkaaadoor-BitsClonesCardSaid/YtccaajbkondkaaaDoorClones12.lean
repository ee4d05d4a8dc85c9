/-
  BitsClones: the walk. The table of math/bits stands in the world: the one condition.
-/
import Derived.Test.YtccaajbkondkaaaDoorCounts12
namespace Go.Proofs.YtccaajbkondkaaaDoor
open Go.RowKit Go.Maps

/-- Three rows beside each other: the played one, and its two clones, the second of which is as it was. -/
def Rows3 (w : World) (L : Nat → Nat) (b bw bm c cw cm d dw dm k : Nat) (wr : World) : Prop :=
  ∃ (L1 L2 : Nat → Nat), RowAt wr b bw bm 150 (150 + k) L1 ∧ RowAt wr c cw cm 150 (150 + k) L2 ∧ RowAt wr d dw dm 150 150 L ∧ Below w.heap.size w wr

set_option maxRecDepth 100000 in
set_option maxHeartbeats 400000 in
theorem clones_any (w : World) (hT : TabAt w) (ao : Option Addr) (len cap : Nat) (hlen : len ≤ maxLen) (K I : Nat → Int) (ho : OpsAt w ao len K I)
    (ap : Option Addr) (len' cap' : Nat) (_hlen' : len' ≤ maxLen) (K' I' : Nat → Int) (hp : OpsAt w ap len' K' I') :
    Calls Tryd.prog 7 #[.slice ao len cap, .slice ap len' cap'] w fun e w' => e = .returned (.bool true) ∧ Below w.heap.size w w' := by
  have c1 := Lib.hid (played_any w hT ao len cap hlen K I ho)
  have c2 := Lib.hid (fun (x : World) (h : Below w.heap.size w x) => played_any x (hT.below h) ao len cap hlen K I (ho.below h))
  replace hT := Lib.hid hT
  replace hp := Lib.hid hp
  clear ho
  unfold maxLen at _hlen'
  go_enter Tryd.func7, Tryd.ntmps7
  go_wp2_with fail
  refine c1.out.mono ?_
  rintro e w1 ⟨b, bw, bm, m, hb, hbw, hbm, rfl, hm, hr, hB⟩
  generalize hL : play12 150 K I (min len 150) = L at hr
  replace hL := Lib.hid hL
  have cc := Lib.hid (clone_any hr (by omega))
  have hr0 := Lib.hid (hr.mono hm)
  have hbl := lt_of_block hr.row
  have hbwl := lt_of_block hr.words
  have hbml : bm < w1.heap.size := by obtain ⟨D, hD, _⟩ := hr.map; exact hD.lt
  replace hB := Lib.hid hB
  clear hr
  go_wp2_with fail
  refine cc.out.mono ?_
  rintro e w2 ⟨c, cw, cm, hc, hcw, hcm, rfl, hrc, hB2⟩
  have r2 : RowAt w2 b bw bm 150 150 L := hr0.out.stay (S := fun _ => False) (Upd.of_below hB2) id id id
  have cc2 := Lib.hid (clone_any r2 (by omega))
  have hcl := lt_of_block hrc.row
  have hcwl := lt_of_block hrc.words
  have hcml : cm < w2.heap.size := by obtain ⟨D, hD, _⟩ := hrc.map; exact hD.lt
  have s1 := hB.out.size
  have s2 := hB2.size
  have hBB := Lib.hid (hB.out.trans (hB2.mono s1))
  replace hrc := Lib.hid (hrc.mono hm)
  replace r2 := Lib.hid r2
  clear hB2
  go_wp2_with fail
  refine cc2.out.mono ?_
  rintro e w3 ⟨d, dw, dm, hd, hdw, hdm, rfl, hrd, hB3⟩
  have r3 : RowAt w3 b bw bm 150 150 L := r2.out.stay (S := fun _ => False) (Upd.of_below hB3) id id id
  have a3 : RowAt w3 c cw cm 150 150 L := hrc.out.stay (S := fun _ => False) (Upd.of_below hB3) id id id
  have q1 := Lib.hid (eq_res a3 r3 true ⟨fun _ => ⟨rfl, fun _ => rfl⟩, fun _ => rfl⟩)
  have q2 := Lib.hid (eq_res a3 hrd true ⟨fun _ => ⟨rfl, fun _ => rfl⟩, fun _ => rfl⟩)
  have start : Rows3 w L b bw bm c cw cm d dw dm 0 w3 := ⟨L, L, r3, a3, hrd, hBB.out.trans (hB3.mono (by omega))⟩
  replace start := Lib.hid start
  clear r3 a3 hrd hB3
  go_wp2_with fail
  refine q1.out.mono ?_
  rintro e w4 ⟨rfl, rfl⟩
  go_wp2_with fail
  refine q2.out.mono ?_
  rintro e w4 ⟨rfl, rfl⟩
  go_wp2_with fail
  have n1 : ∀ k, Three b bw bm k → ¬ Three c cw cm k := by unfold Three; omega
  have n2 : ∀ k, Three b bw bm k → ¬ Three d dw dm k := by unfold Three; omega
  have n3 : ∀ k, Three c cw cm k → ¬ Three d dw dm k := by unfold Three; omega
  replace n1 := Lib.hid n1
  replace n2 := Lib.hid n2
  replace n3 := Lib.hid n3
  go_loopw [9] (fun i wr => ∃ k : Nat, k ≤ 60 ∧ k ≤ len' ∧ i = .int .i64 k ∧ Rows3 w L b bw bm c cw cm d dw dm k wr) (fun i _ => 60 - (intOf i).toNat)
  case atStart => exact ⟨0, Nat.zero_le _, Nat.zero_le _, rfl, start.out⟩
  case round =>
    obtain ⟨k, hk, hk2, rfl, L1, L2, x1, x2, x3, xB⟩ := hrel
    have xs := xB.size
    by_cases hlt : k < len' ∧ k < 60
    · obtain ⟨hlt1, hlt2⟩ := hlt
      obtain ⟨ob, oo, rfl, _, ci⟩ := (hp.out.below xB) k hlt1
      have hob := block_lt_of_cell ci
      obtain ⟨ob', oo', e', _, ci'⟩ := hp.out k hlt1
      obtain ⟨rfl, rfl⟩ : ob = ob' ∧ oo = oo' := by simpa using e'
      have hob' := block_lt_of_cell ci'
      simp only at hob'
      generalize I' k = ii at ci ci'
      have h1 := Lib.hid (hold_any x1 (by omega) ii)
      have d1 : ∀ y, Upd (Three b bw bm) wr y → Calls Tryd.prog 20 #[.pointer (some ⟨c, 0, none⟩), .int .i64 ii] y (DropSays c cw cm 150 (150 + k) L2 ii y) := fun y u =>
        drop_any (x2.stay u (fun h => n1.out _ h (.inl rfl)) (fun h => n1.out _ h (.inr (.inl rfl))) (fun h => n1.out _ h (.inr (.inr rfl)))) (by omega) ii
      have fin : ∀ y z M1 M2, RowAt y b bw bm 150 (150 + k + 1) M1 → Upd (Three b bw bm) wr y → RowAt z c cw cm 150 (150 + k + 1) M2 → Upd (Three c cw cm) y z → Rows3 w L b bw bm c cw cm d dw dm (k + 1) z := fun y z M1 M2 a1 u1 a2 u2 =>
        ⟨M1, M2, a1.stay u2 (fun h => n1.out _ (.inl rfl) h) (fun h => n1.out _ (.inr (.inl rfl)) h) (fun h => n1.out _ (.inr (.inr rfl)) h), a2,
          (x3.stay u1 (fun h => n2.out _ h (.inl rfl)) (fun h => n2.out _ h (.inr (.inl rfl))) (fun h => n2.out _ h (.inr (.inr rfl)))).stay u2 (fun h => n3.out _ h (.inl rfl)) (fun h => n3.out _ h (.inr (.inl rfl))) (fun h => n3.out _ h (.inr (.inr rfl))),
          upd_below (upd_below xB u1 hb hbw hbm (Nat.le_refl _)) u2 (by omega) (by omega) (by omega) (Nat.le_refl _)⟩
      have cy : ∀ y, Upd (Three b bw bm) wr y → y.cell? ⟨ob, oo + k * 2 + 1, none⟩ = some (.int .i64 ii) := fun y u => by
        rw [u.cell hob (by unfold Three; simp; omega)]; exact ci
      replace d1 := Lib.hid d1
      replace fin := Lib.hid fin
      replace cy := Lib.hid cy
      clear x1 x2 x3 xB
      go_wp2_with fail
      refine h1.out.mono ?_
      rintro e y ⟨rfl, a1, u1⟩
      have d2 := Lib.hid (d1.out y u1)
      have cy1 := cy.out y u1
      have fin1 := Lib.hid (fun z M2 => fin.out y z _ M2 a1 u1)
      clear a1 u1
      go_wp2_with fail
      refine d2.out.mono ?_
      rintro e z ⟨rfl, a2, u2⟩
      have fin2 := Lib.hid (fin1.out z _ a2 u2)
      clear a2 u2
      go_wp2_with fail
      go_roundw
      case rel => exact ⟨k + 1, by omega, by omega, by go_num, fin2.out⟩
      case measure => simp [intOf]; omega
    · have c3 := Lib.hid (c2.out wr xB)
      by_cases hlen2 : k < len'
      · have h60 : ¬ k < 60 := fun h => hlt ⟨hlen2, h⟩
        clear hlt
        go_wp2_with fail
        refine c3.out.mono ?_
        rintro e y ⟨f, fw, fm, mf, hf, hfw, hfm, rfl, hmf, xf, yB⟩
        have kd : RowAt y d dw dm 150 150 L := x3.stay (S := fun _ => False) (Upd.of_below yB) id id id
        rw [hL.out] at xf
        have ca := Lib.hid (alive_any y (hT.out.below (xB.trans (yB.mono xs))))
        have ce := Lib.hid (fun (z : World) (hz : Below y.heap.size y z) => eq_res (kd.stay (S := fun _ => False) (Upd.of_below hz) id id id) (xf.stay (S := fun _ => False) (Upd.of_below hz) id id id) true ⟨fun _ => ⟨rfl, fun _ => rfl⟩, fun _ => rfl⟩)
        have hys := yB.size
        have fin := Lib.hid (fun (z : World) (hz : Below y.heap.size y z) => (xB.trans (yB.mono xs)).trans (hz.mono (Nat.le_trans xs hys)))
        clear kd xf yB
        go_wp2_with fail
        refine ca.out.mono ?_
        rintro e z ⟨rfl, hz⟩
        have ce2 := Lib.hid (ce.out z hz)
        have fin2 := Lib.hid (fin.out z hz)
        clear hz
        go_wp2_with fail
        refine ce2.out.mono ?_
        rintro e z' ⟨rfl, rfl⟩
        go_wp2_with fail
        go_ret
        exact ⟨rfl, fin2.out⟩
      · clear hlt
        go_wp2_with fail
        refine c3.out.mono ?_
        rintro e y ⟨f, fw, fm, mf, hf, hfw, hfm, rfl, hmf, xf, yB⟩
        have kd : RowAt y d dw dm 150 150 L := x3.stay (S := fun _ => False) (Upd.of_below yB) id id id
        rw [hL.out] at xf
        have ca := Lib.hid (alive_any y (hT.out.below (xB.trans (yB.mono xs))))
        have ce := Lib.hid (fun (z : World) (hz : Below y.heap.size y z) => eq_res (kd.stay (S := fun _ => False) (Upd.of_below hz) id id id) (xf.stay (S := fun _ => False) (Upd.of_below hz) id id id) true ⟨fun _ => ⟨rfl, fun _ => rfl⟩, fun _ => rfl⟩)
        have hys := yB.size
        have fin := Lib.hid (fun (z : World) (hz : Below y.heap.size y z) => (xB.trans (yB.mono xs)).trans (hz.mono (Nat.le_trans xs hys)))
        clear kd xf yB
        go_wp2_with fail
        refine ca.out.mono ?_
        rintro e z ⟨rfl, hz⟩
        have ce2 := Lib.hid (ce.out z hz)
        have fin2 := Lib.hid (fin.out z hz)
        clear hz
        go_wp2_with fail
        refine ce2.out.mono ?_
        rintro e z' ⟨rfl, rfl⟩
        go_wp2_with fail
        go_ret
        exact ⟨rfl, fin2.out⟩

end Go.Proofs.YtccaajbkondkaaaDoor
