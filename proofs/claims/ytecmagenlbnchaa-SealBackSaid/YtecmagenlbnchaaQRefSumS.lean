/-
  The reference of layer 2: filled, Sum, Join. Conditions: the texts are not too long.
  The reference of layer 2: Sum. Conditions: the text is not too long.
-/
import Derived.Test.YtecmagenlbnchaaQRefTake
import Derived.Test.YtecmagenlbnchaaQCut
namespace Go.Proofs.Ytecmagenlbnchaa
set_option maxRecDepth 100000
open Go.RowKit

theorem u8l_len (l : List Nat) : (u8l l).length = l.length := by simp [u8l]
/-- How many elements a slice has. -/
def lenOf : Value → Nat
  | .slice _ l _ => l
  | _ => 0

set_option maxRecDepth 100000 in
theorem ref_filled (w : World) (v : Value) (t : List Nat) (h : TextAt w v t) (hl : t.length ≤ 1000000) :
    Calls Try.prog 101 #[v] w fun e w' => ∃ v', e = .returned v' ∧ Own w' w.heap.size 5 v' (u8l (filled t)) ∧ Below w.heap.size w w' := by
  have cp := Lib.hid (ref_copy w v t h (by omega))
  obtain ⟨ao, cap, rfl, h1, h2, h3⟩ := h.ex
  generalize hn : t.length = n at *
  replace h3 := Lib.hid h3
  replace h := Lib.hid h
  replace hn := Lib.hid hn
  go_enter Try.func101, Try.ntmps101
  go_wp2_with fail
  refine cp.out.mono ?_
  rintro e w1 ⟨v1, rfl, hO1, hB1⟩
  have hs1 := hB1.size
  have hlen1 : (u8l t).length + 1 ≤ 1000000000 := by rw [u8l_len, hn.out]; omega
  replace hO1 := Lib.hid hO1
  replace hB1 := Lib.hid hB1
  replace hs1 := Lib.hid hs1
  replace hlen1 := Lib.hid hlen1
  go_wp2_with (at_builtin; refine wpList_append_x rfl (.tmp 5) (.tmp 6) 25 rfl 5 Try.underlying25 (.int .u8 0) 1 infoU8 rfl (by decide) w.heap.size w v1 (u8l t) rfl (hO1.out.alloc _) (hB1.out.alloc hs1.out _) (by have := hs1.out; simp; omega) (some ⟨w1.heap.size, 0, none⟩) 1 1 [.int .u8 128] rfl rfl (fun e => by simp at e) one_cell (by simp [Value.oneCell']) hlen1.out ?_; intro v2 w2 hO2 hB2 hg2 hb2)
  have start : Own w2 w.heap.size 5 v2 (u8l (t ++ [128] ++ List.replicate 0 0)) := by
    have := hO2.out
    rw [List.replicate_zero, List.append_nil, u8l_append]; exact this
  replace start := Lib.hid start
  clear hO2 hg2 hb2 cp
  go_loopw [3] (fun o wr => ∃ j : Nat, j ≤ zeros n ∧ Own wr w.heap.size 5 o (u8l (t ++ [128] ++ List.replicate j 0)) ∧ Below w.heap.size w wr) (fun o _ => (120 - lenOf o % 64) % 64)
  case atStart => exact ⟨0, Nat.zero_le _, start.out, hB2.out⟩
  case round =>
    obtain ⟨j, hj, hO, hB⟩ := hrel
    obtain ⟨a1, c1, rfl, hc1, _, hc2, _, _⟩ := hO.form
    have hLl : (u8l (t ++ [128] ++ List.replicate j 0)).length = n + 1 + j := by rw [u8l_len]; simp [hn.out]; omega
    have hjz : j ≤ 64 := by unfold zeros at hj; omega
    have esucc : u8l (t ++ [128] ++ List.replicate (j + 1) 0) = u8l (t ++ [128] ++ List.replicate j 0) ++ [.int .u8 0] := by
      rw [List.replicate_succ', ← List.append_assoc, u8l_append]; rfl
    have hs := hB.size
    have hz : j = zeros n ↔ (n + 1 + j) % 64 = 56 := by unfold zeros at hj ⊢; omega
    generalize hX : u8l (t ++ [128] ++ List.replicate j 0) = X at *
    replace hX := Lib.hid hX
    rw [hLl] at hc1 hc2 ⊢
    generalize hm : n + 1 + j = m at *
    have hm9 : m ≤ 2000000 := by omega
    replace hLl := Lib.hid hLl
    replace hO := Lib.hid hO
    replace hB := Lib.hid hB
    replace hs := Lib.hid hs
    replace esucc := Lib.hid esucc
    replace hm := Lib.hid hm
    replace hj := Lib.hid hj
    by_cases h56 : m % 64 = 56
    · have hz' := hz.2 h56
      have ht : (((m : Int) % 64) == 56) = true := by simp; omega
      replace hz' := Lib.hid hz'
      replace hz := Lib.hid hz
      go_wp2_with fail
      have rb := ref_bytes wr (8 * n) 8 (Nat.le_refl _) (by omega)
      rw [Int.natCast_mul, show ((8 : Nat) : Int) = 8 from rfl] at rb
      refine rb.mono ?_
      rintro e w6 ⟨v6, rfl, hO6, hB6⟩
      obtain ⟨a6, c6, rfl, q1, q2, q3⟩ := (hO6.text (beBytes_lt _ _)).ex
      rw [length_beBytes]
      have hD := (hO.out.below hB6)
      rw [hLl.out] at hD
      have hBB := hB.out.trans (hB6.mono hs.out)
      have hs6 := hBB.size
      have q4 := q3.news
      have hlen8 : X.length + 8 ≤ 1000000000 := by rw [hLl.out]; omega
      rw [length_beBytes] at q3
      have efill : u8l (filled t) = X ++ u8l (beBytes 8 (8 * n)) := by
        unfold filled
        rw [u8l_append, hn.out, ← hz'.out, hX.out]
      replace rb := Lib.hid rb
      replace hO6 := Lib.hid hO6
      replace hB6 := Lib.hid hB6
      replace hD := Lib.hid hD
      replace hBB := Lib.hid hBB
      replace hs6 := Lib.hid hs6
      replace q3 := Lib.hid q3
      replace q4 := Lib.hid q4
      replace q1 := Lib.hid q1
      replace hlen8 := Lib.hid hlen8
      replace efill := Lib.hid efill
      go_wp2_with (at_builtin; refine wpList_append_x rfl (.tmp 15) (.tmp 20) 25 rfl 5 Try.underlying25 (.int .u8 0) 1 infoU8 rfl (by decide) w.heap.size w (.slice a1 m c1) X rfl hD.out hBB.out hs6.out a6 8 c6 (u8l (beBytes 8 (8 * n))) rfl (by simp [u8l]) q2 q4.out (u8l_one _) hlen8.out ?_; intro v7 w7 hO7 hB7 hg7 hb7)
      go_ret
      exact ⟨_, rfl, by rw [efill.out]; exact hO7.out, hB7.out⟩
    · have hz' : j + 1 ≤ zeros n := by
        have h1 := hj.out
        have h2 : j ≠ zeros n := fun e => h56 (hz.1 e)
        omega
      have ht : (((m : Int) % 64) == 56) = false := by simp; omega
      replace hz' := Lib.hid hz'
      replace hz := Lib.hid hz
      have hlen2 : X.length + 1 ≤ 1000000000 := by rw [hLl.out]; omega
      replace hlen2 := Lib.hid hlen2
      go_wp2_with (at_builtin; refine wpList_append_x rfl (.tmp 12) (.tmp 13) 25 rfl 5 Try.underlying25 (.int .u8 0) 1 infoU8 rfl (by decide) w.heap.size w (.slice a1 m c1) X rfl (by have := hO.out; rw [hLl.out] at this; exact this.alloc _) (hB.out.alloc hs.out _) (by have := hs.out; simp; omega) (some ⟨wr.heap.size, 0, none⟩) 1 1 [.int .u8 0] rfl rfl (fun e => by simp at e) one_cell (by simp [Value.oneCell']) hlen2.out ?_; intro v5 w5 hO5 hB5 hg5 hb5)
      go_roundw
      case rel => exact ⟨j + 1, hz'.out, by rw [esucc.out]; exact hO5.out, hB5.out⟩
      case measure =>
        obtain ⟨_, _, e5, _⟩ := hO5.out.form
        rw [e5]
        simp only [lenOf, List.length_append, hLl.out, List.length_cons, List.length_nil]
        omega


end Go.Proofs.Ytecmagenlbnchaa
namespace Go.Proofs.Ytecmagenlbnchaa
set_option maxRecDepth 100000
open Go.RowKit

theorem filled_len (t : List Nat) : (filled t).length = 64 * ((filled t).length / 64) := by
  have := filled_mod t
  have e : (filled t).length = (t ++ [128] ++ List.replicate (zeros t.length) 0).length + 8 := by unfold filled; rw [List.length_append, length_beBytes]
  omega
theorem filled_pos (t : List Nat) : 1 ≤ (filled t).length / 64 := by
  have h1 := filled_len t
  have e : 0 < (filled t).length := by unfold filled; simp; omega
  omega
theorem filled_le (t : List Nat) : (filled t).length ≤ t.length + 80 := by
  have : zeros t.length ≤ 63 := by unfold zeros; omega
  unfold filled; simp; omega
theorem filled_small {t : List Nat} (h : ∀ x ∈ t, x < 256) : ∀ x ∈ filled t, x < 256 := by
  intro x hx
  unfold filled at hx
  simp only [List.mem_append, List.mem_singleton, List.mem_replicate] at hx
  rcases hx with ((h1 | rfl) | ⟨_, rfl⟩) | h1
  · exact h x h1
  · decide
  · decide
  · exact beBytes_lt _ _ x h1
theorem press_add (h : List Nat) (b : Nat → Nat) : press h b = addTo h (roundsTo h (spread b) 64) 8 := (addTo_full _ _).symm

set_option maxRecDepth 100000 in
theorem ref_sum (w : World) (v : Value) (t : List Nat) (h : TextAt w v t) (hl : t.length ≤ 1000000) :
    Calls Try.prog 91 #[v] w fun e w' => ∃ v', e = .returned v' ∧ Own w' w.heap.size 5 v' (u8l (sumOf t)) ∧ Below w.heap.size w w' := by
  have rf := Lib.hid (ref_filled w v t h hl)
  have hFs := filled_small h.small
  have hFl := filled_len t
  have hFp := filled_pos t
  have hFe := filled_le t
  have eS : sumOf t = (hashTo (byt (filled t)) ((filled t).length / 64)).flatMap (beBytes 4) := rfl
  generalize filled t = F at *
  generalize hN : F.length / 64 = N at *
  obtain ⟨ao, cap, rfl, h1, h2, h3⟩ := h.ex
  replace h3 := Lib.hid h3
  replace h := Lib.hid h
  replace hFs := Lib.hid hFs
  replace hFl := Lib.hid hFl
  replace hN := Lib.hid hN
  replace eS := Lib.hid eS
  go_enter Try.func91, Try.ntmps91
  go_wp2_with fail
  refine rf.out.mono ?_
  rintro e w1 ⟨v1, rfl, hO1, hB1⟩
  replace hO1 := Lib.hid hO1
  replace hB1 := Lib.hid hB1
  go_wp2_with fail
  refine (ref_eight w1).mono ?_
  rintro e w2 ⟨rfl, hE2, hB2⟩
  replace hE2 := Lib.hid hE2
  replace hB2 := Lib.hid hB2
  go_wp2_with fail
  refine (ref_sixty w2).mono ?_
  rintro e w3 ⟨rfl, hK3, hB3⟩
  have hC3 : Below w.heap.size w w3 := hB1.out.trans ((hB2.out.trans (hB3.mono hB2.out.size)).mono hB1.out.size)
  have hO3 : Own w3 w.heap.size 5 v1 (u8l F) := (hO1.out.below hB2.out).below hB3
  have hE3 : WordsAt w3 (.slice (some ⟨w1.heap.size, 0, none⟩) 8 8) shaH := (hE2.out.words rfl).below hB3
  have hK3' : WordsAt w3 (.slice (some ⟨w2.heap.size, 0, none⟩) 64 64) shaK := hK3.words rfl
  obtain ⟨ao1, cp, rfl, hcp, _, _, _, hcell⟩ := hO3.form
  rw [u8l_len] at hcp ⊢
  obtain ⟨g, rfl, _, _⟩ := hcell 0 (.int .u8 (byt F 0 : Nat)) (by have := hFl.out; simp [u8l, byt, List.getD, show 0 < F.length by omega])
  have hby : BytesAt w3 (some ⟨g, 0, none⟩) F.length (byt F) := fun i hi => by
    obtain ⟨g', e, hc, _⟩ := hcell i (.int .u8 (byt F i : Nat)) (by simp [u8l, byt, List.getD, hi])
    cases e
    exact ⟨byt_lt hFs.out i, g, 0, rfl, by rw [Nat.zero_add]; exact hc⟩
  rw [hFl.out] at hby hcp ⊢
  have hs3 := hC3.size
  clear hcell
  replace hC3 := Lib.hid hC3
  replace hO3 := Lib.hid hO3
  replace hE3 := Lib.hid hE3
  replace hK3' := Lib.hid hK3'
  replace hby := Lib.hid hby
  replace hs3 := Lib.hid hs3
  clear hB1 hB2 hB3 hO1 hE2 hK3 rf
  have hN9 : N ≤ 20000 := by have := hFl.out; omega
  go_wp2_with fail
  go_loopw [4, 6] (fun o i wr => ∃ k : Nat, k ≤ N ∧ i = .int .i64 ((64 * k : Nat) : Int) ∧ WordsAt wr o (hashTo (byt F) k) ∧ Below w3.heap.size w3 wr) (fun _ i _ => 64 * N - (intOf i).toNat)
  case atStart => exact ⟨0, Nat.zero_le _, rfl, hE3.out, Below.refl _ _⟩
  case round =>
    obtain ⟨k, hk, rfl, hW, hB⟩ := hrel
    by_cases hlt : k < N
    · have hpart : TextAt wr (.slice (some ⟨g, 64 * k, none⟩) 64 (cp - 64 * k)) (bytesOf (fun j => byt F (64 * k + j)) 64) := by
        refine ⟨_, cp - 64 * k, by rw [length_bytesOf], by rw [length_bytesOf]; omega, fun e => by simp at e, ?_⟩
        rw [length_bytesOf]
        refine byt_bytesOf_fun _ _ fun j hj => ?_
        obtain ⟨hb1, ob', oo', e, hc⟩ := (hby.out.below hB) (64 * k + j) (by omega)
        cases e
        exact ⟨hb1, g, 64 * k, rfl, by rw [Nat.zero_add] at hc; exact hc⟩
      have sp := ref_spread wr _ _ hpart (by simp)
      have ep : press (hashTo (byt F) k) (byt (bytesOf (fun j => byt F (64 * k + j)) 64)) = hashTo (byt F) (k + 1) := by
        rw [show hashTo (byt F) (k + 1) = press (hashTo (byt F) k) (fun i => byt F (64 * k + i)) from rfl]
        exact press_congr _ fun i hi => byt_bytesOf _ hi
      have l8 := length_hashTo (byt F) k
      have sm := small_hashTo (byt F) k
      have hK := hK3'.out.below hB
      generalize bytesOf (fun j => byt F (64 * k + j)) 64 = b at *
      generalize hashTo (byt F) k = hk0 at *
      replace sp := Lib.hid sp
      replace ep := Lib.hid ep
      replace hW := Lib.hid hW
      replace hB := Lib.hid hB
      replace hK := Lib.hid hK
      replace sm := Lib.hid sm
      replace hpart := Lib.hid hpart
      have e64 : 64 * k + 64 - 64 * k = 64 := by omega
      go_wp2_with fail
      refine sp.out.mono ?_
      rintro e w5 ⟨v5, rfl, hS5, hB5⟩
      have tk := ref_take w5 u4 v5 (.slice (some ⟨w2.heap.size, 0, none⟩) 64 64) hk0 (spread (byt b)) (hW.out.below hB5) (hS5.words (by rw [length_spread]; omega)) (hK.out.below hB5) l8 (length_spread _) sm.out
      rw [← press_add, ep.out] at tk
      have hBB : Below w3.heap.size w3 w5 := hB.out.trans (hB5.mono hB.out.size)
      replace hBB := Lib.hid hBB
      replace tk := Lib.hid tk
      clear hS5 hB5
      go_wp2_with fail
      refine tk.out.mono ?_
      rintro e w6 ⟨g6, hg6, rfl, hR6, hB6⟩
      have hW6 : WordsAt w6 (.slice (some ⟨g6, 0, none⟩) 8 8) (hashTo (byt F) (k + 1)) := hR6.words (length_hashTo _ _)
      have hB7 : Below w3.heap.size w3 w6 := hBB.out.trans (hB6.mono hBB.out.size)
      replace hW6 := Lib.hid hW6
      replace hB7 := Lib.hid hB7
      clear hR6 hB6 hg6 tk
      go_wp2_with fail
      go_roundw
      case rel => exact ⟨k + 1, by omega, by congr 1, hW6.out, hB7.out⟩
      case measure => simp [intOf]; omega
    · obtain rfl : k = N := by omega
      have hC : Below w.heap.size w wr := hC3.out.trans (hB.mono hs3.out)
      have l8 := length_hashTo (byt F) k
      have sm := small_hashTo (byt F) k
      generalize hashTo (byt F) k = hh at *
      replace hB := Lib.hid hB
      replace hW := Lib.hid hW
      replace hC := Lib.hid hC
      replace sm := Lib.hid sm
      have hfin : ¬ (((64 * k : Nat) : Int) < 64 * (k : Int)) := by omega
      go_wp2_with fail
      obtain ⟨wz, rfl⟩ : ∃ wz : World, wz = wr := ⟨_, rfl⟩
      obtain ⟨gh, ch, rfl, hcell⟩ := hW.out
      rw [l8]
      rw [l8] at hcell
      have hcz := hC.out.size
      replace hcell := Lib.hid hcell
      replace hcz := Lib.hid hcz
      go_loopw [7, 8] (fun o i wr => ∃ j : Nat, j ≤ 8 ∧ i = .int .i64 j ∧ Own wr wz.heap.size 5 o (u8l ((hh.take j).flatMap (beBytes 4))) ∧ Below wz.heap.size wz wr) (fun _ i _ => 8 - (intOf i).toNat)
      case atStart => exact ⟨0, Nat.zero_le _, rfl, Own.nil _ _ _, Below.refl _ _⟩
      case round =>
        obtain ⟨j, hj, rfl, hO, hB'⟩ := hrel
        by_cases hlt : j < 8
        · have cj := (hB'.cell (block_lt_of_cell (hcell.out j hlt))).trans (hcell.out j hlt)
          have hx : hh.getD j 0 < 4294967296 := sm.out.get j
          have etake : u8l ((hh.take (j + 1)).flatMap (beBytes 4)) = u8l ((hh.take j).flatMap (beBytes 4)) ++ u8l (beBytes 4 (hh.getD j 0)) := by
            rw [List.take_add_one, List.flatMap_append, u8l_append]
            congr 2
            simp [List.getD, show j < hh.length by omega]
          have hlenj : (u8l ((hh.take j).flatMap (beBytes 4))).length ≤ 32 := by
            have hlen : ∀ l : List Nat, (l.flatMap (beBytes 4)).length = 4 * l.length := fun l => by
              induction l with
              | nil => rfl
              | cons a l ih => simp [ih]; omega
            rw [u8l_len, hlen, List.length_take]; omega
          generalize hh.getD j 0 = x at *
          have rb := ref_bytes wr x 4 (by omega) (by omega)
          rw [show ((4 : Nat) : Int) = 4 from rfl] at rb
          generalize u8l ((hh.take j).flatMap (beBytes 4)) = X at *
          have hsw := hB'.size
          replace rb := Lib.hid rb
          replace hO := Lib.hid hO
          replace hB' := Lib.hid hB'
          replace hsw := Lib.hid hsw
          replace etake := Lib.hid etake
          replace hlenj := Lib.hid hlenj
          go_wp2_with fail
          refine rb.out.mono ?_
          rintro e w6 ⟨v6, rfl, hO6, hB6⟩
          obtain ⟨a6, c6, rfl, q1, q2, q3⟩ := (hO6.text (beBytes_lt _ _)).ex
          have hD := hO.out.below hB6
          have hBB := hB'.out.trans (hB6.mono hsw.out)
          have hs6 := hBB.size
          have q4 := q3.news
          have hlen8 : X.length + 4 ≤ 1000000000 := by have := hlenj.out; omega
          rw [length_beBytes] at q3 ⊢
          replace hO6 := Lib.hid hO6
          replace hB6 := Lib.hid hB6
          replace hD := Lib.hid hD
          replace hBB := Lib.hid hBB
          replace hs6 := Lib.hid hs6
          replace q3 := Lib.hid q3
          replace q4 := Lib.hid q4
          replace q1 := Lib.hid q1
          replace hlen8 := Lib.hid hlen8
          go_wp2_with (at_builtin; refine wpList_append_x rfl (.tmp 32) (.tmp 38) 25 rfl 5 Try.underlying25 (.int .u8 0) 1 infoU8 rfl (by decide) wz.heap.size wz u7 X rfl hD.out hBB.out hs6.out a6 4 c6 (u8l (beBytes 4 x)) rfl (by simp [u8l]) q2 q4.out (u8l_one _) hlen8.out ?_; intro v7 w7 hO7 hB7 hg7 hb7)
          go_roundw
          case rel => exact ⟨j + 1, by omega, by go_num, by rw [etake.out]; exact hO7.out, hB7.out⟩
          case measure => simp [intOf]; omega
        · obtain rfl : j = 8 := by omega
          have eF : u8l ((hh.take 8).flatMap (beBytes 4)) = u8l (sumOf t) := by rw [eS.out, List.take_of_length_le (show hh.length ≤ 8 by omega)]
          rw [eF] at hO
          replace hO := Lib.hid hO
          replace hB' := Lib.hid hB'
          replace eF := Lib.hid eF
          go_wp2_with fail
          go_ret
          exact ⟨_, rfl, hO.out.weaken hcz.out, hC.out.trans (hB'.out.mono hcz.out)⟩

end Go.Proofs.Ytecmagenlbnchaa
