/-
  The reference of layer 2: filled, Sum, Join. Conditions: the texts are not too long.
-/
import Derived.Test.YtjbmdeppoobccaaRefTake
import Derived.Test.YtjbmdeppoobccaaShaBoth
namespace Go.Proofs.Ytjbmdeppoobccaa
open Go.RowKit

theorem u8l_len (l : List Nat) : (u8l l).length = l.length := by simp [u8l]
/-- How many elements a slice has. -/
def lenOf : Value → Nat
  | .slice _ l _ => l
  | _ => 0

set_option maxRecDepth 100000 in
theorem ref_filled (w : World) (v : Value) (t : List Nat) (h : TextAt w v t) (hl : t.length ≤ 1000000) :
    Calls Try.prog 43 #[v] w fun e w' => ∃ v', e = .returned v' ∧ Own w' w.heap.size 5 v' (u8l (filled t)) ∧ Below w.heap.size w w' := by
  have cp := Lib.hid (ref_copy w v t h (by omega))
  obtain ⟨ao, cap, rfl, h1, h2, h3⟩ := h.ex
  generalize hn : t.length = n at *
  replace h3 := Lib.hid h3
  replace h := Lib.hid h
  replace hn := Lib.hid hn
  go_enter Try.func43, Try.ntmps43
  go_wp2_with fail
  refine cp.out.mono ?_
  rintro e w1 ⟨v1, rfl, hO1, hB1⟩
  have hs1 := hB1.size
  have hlen1 : (u8l t).length + 1 ≤ 1000000000 := by rw [u8l_len, hn.out]; omega
  replace hO1 := Lib.hid hO1
  replace hB1 := Lib.hid hB1
  replace hs1 := Lib.hid hs1
  replace hlen1 := Lib.hid hlen1
  go_wp2_with (at_builtin; refine wpList_append_x rfl (.tmp 5) (.tmp 6) 22 rfl 5 Try.underlying22 (.int .u8 0) 1 infoU8 rfl (by decide) w.heap.size w v1 (u8l t) rfl (hO1.out.alloc _) (hB1.out.alloc hs1.out _) (by have := hs1.out; simp; omega) (some ⟨w1.heap.size, 0, none⟩) 1 1 [.int .u8 128] rfl rfl (fun e => by simp at e) one_cell (by simp [Value.oneCell']) hlen1.out ?_; intro v2 w2 hO2 hB2 hg2 hb2)
  have start : Own w2 w.heap.size 5 v2 (u8l (t ++ [128] ++ List.replicate 0 0)) := by
    have := hO2.out
    rw [List.replicate_zero, List.append_nil, u8l_append]; exact this
  replace start := Lib.hid start
  clear hO2 hg2 hb2 cp
  go_loopw [3] (fun o wr => ∃ j : Nat, j ≤ zeros n ∧ Own wr w.heap.size 5 o (u8l (t ++ [128] ++ List.replicate j 0)) ∧ Below w.heap.size w wr) (fun o _ => (120 - lenOf o % 64) % 64)
  case atStart => exact ⟨0, Nat.zero_le _, start.out, hB2.out⟩
  case round =>
    obtain ⟨j, hj, hO, hB⟩ := hrel
    obtain ⟨a1, c1, rfl, hc1, _, hc2, _, _⟩ := hO.form
    have hLl : (u8l (t ++ [128] ++ List.replicate j 0)).length = n + 1 + j := by rw [u8l_len]; simp [hn.out]; omega
    have hjz : j ≤ 64 := by unfold zeros at hj; omega
    have esucc : u8l (t ++ [128] ++ List.replicate (j + 1) 0) = u8l (t ++ [128] ++ List.replicate j 0) ++ [.int .u8 0] := by
      rw [List.replicate_succ', ← List.append_assoc, u8l_append]; rfl
    have hs := hB.size
    have hz : j = zeros n ↔ (n + 1 + j) % 64 = 56 := by unfold zeros at hj ⊢; omega
    generalize hX : u8l (t ++ [128] ++ List.replicate j 0) = X at *
    replace hX := Lib.hid hX
    rw [hLl] at hc1 hc2 ⊢
    generalize hm : n + 1 + j = m at *
    have hm9 : m ≤ 2000000 := by omega
    replace hLl := Lib.hid hLl
    replace hO := Lib.hid hO
    replace hB := Lib.hid hB
    replace hs := Lib.hid hs
    replace esucc := Lib.hid esucc
    replace hm := Lib.hid hm
    replace hj := Lib.hid hj
    by_cases h56 : m % 64 = 56
    · have hz' := hz.2 h56
      have ht : (((m : Int) % 64) == 56) = true := by simp; omega
      replace hz' := Lib.hid hz'
      replace hz := Lib.hid hz
      go_wp2_with fail
      have rb := ref_bytes wr (8 * n) 8 (Nat.le_refl _) (by omega)
      rw [Int.natCast_mul, show ((8 : Nat) : Int) = 8 from rfl] at rb
      refine rb.mono ?_
      rintro e w6 ⟨v6, rfl, hO6, hB6⟩
      obtain ⟨a6, c6, rfl, q1, q2, q3⟩ := (hO6.text (beBytes_lt _ _)).ex
      rw [length_beBytes]
      have hD := (hO.out.below hB6)
      rw [hLl.out] at hD
      have hBB := hB.out.trans (hB6.mono hs.out)
      have hs6 := hBB.size
      have q4 := q3.news
      have hlen8 : X.length + 8 ≤ 1000000000 := by rw [hLl.out]; omega
      rw [length_beBytes] at q3
      have efill : u8l (filled t) = X ++ u8l (beBytes 8 (8 * n)) := by
        unfold filled
        rw [u8l_append, hn.out, ← hz'.out, hX.out]
      replace rb := Lib.hid rb
      replace hO6 := Lib.hid hO6
      replace hB6 := Lib.hid hB6
      replace hD := Lib.hid hD
      replace hBB := Lib.hid hBB
      replace hs6 := Lib.hid hs6
      replace q3 := Lib.hid q3
      replace q4 := Lib.hid q4
      replace q1 := Lib.hid q1
      replace hlen8 := Lib.hid hlen8
      replace efill := Lib.hid efill
      go_wp2_with (at_builtin; refine wpList_append_x rfl (.tmp 15) (.tmp 20) 22 rfl 5 Try.underlying22 (.int .u8 0) 1 infoU8 rfl (by decide) w.heap.size w (.slice a1 m c1) X rfl hD.out hBB.out hs6.out a6 8 c6 (u8l (beBytes 8 (8 * n))) rfl (by simp [u8l]) q2 q4.out (u8l_one _) hlen8.out ?_; intro v7 w7 hO7 hB7 hg7 hb7)
      go_ret
      exact ⟨_, rfl, by rw [efill.out]; exact hO7.out, hB7.out⟩
    · have hz' : j + 1 ≤ zeros n := by
        have h1 := hj.out
        have h2 : j ≠ zeros n := fun e => h56 (hz.1 e)
        omega
      have ht : (((m : Int) % 64) == 56) = false := by simp; omega
      replace hz' := Lib.hid hz'
      replace hz := Lib.hid hz
      have hlen2 : X.length + 1 ≤ 1000000000 := by rw [hLl.out]; omega
      replace hlen2 := Lib.hid hlen2
      go_wp2_with (at_builtin; refine wpList_append_x rfl (.tmp 12) (.tmp 13) 22 rfl 5 Try.underlying22 (.int .u8 0) 1 infoU8 rfl (by decide) w.heap.size w (.slice a1 m c1) X rfl (by have := hO.out; rw [hLl.out] at this; exact this.alloc _) (hB.out.alloc hs.out _) (by have := hs.out; simp; omega) (some ⟨wr.heap.size, 0, none⟩) 1 1 [.int .u8 0] rfl rfl (fun e => by simp at e) one_cell (by simp [Value.oneCell']) hlen2.out ?_; intro v5 w5 hO5 hB5 hg5 hb5)
      go_roundw
      case rel => exact ⟨j + 1, hz'.out, by rw [esucc.out]; exact hO5.out, hB5.out⟩
      case measure =>
        obtain ⟨_, _, e5, _⟩ := hO5.out.form
        rw [e5]
        simp only [lenOf, List.length_append, hLl.out, List.length_cons, List.length_nil]
        omega

set_option maxRecDepth 100000 in
theorem ref_join (w : World) (ao : Option Addr) (cap : Nat) (ls : List (List Nat)) (h : TextsAt w ao ls) (hlen : ls.flatten.length ≤ 1000000) (hls : ls.length < 1000000) :
    Calls Try.prog 21 #[.slice ao ls.length cap] w fun e w' => ∃ v', e = .returned v' ∧ Own w' w.heap.size 5 v' (u8l ls.flatten) ∧ Below w.heap.size w w' := by
  obtain ⟨n, hn⟩ : ∃ n, n = ls.length := ⟨_, rfl⟩
  rw [← hn]
  rw [← hn] at hls
  replace h := Lib.hid h
  replace hn := Lib.hid hn
  go_enter Try.func21, Try.ntmps21
  go_wp2_with fail
  go_loopw [3, 4] (fun o i wr => ∃ k : Nat, k ≤ n ∧ i = .int .i64 k ∧ Own wr w.heap.size 5 o (u8l (joinTo ls k)) ∧ Below w.heap.size w wr) (fun _ i _ => n - (intOf i).toNat)
  case atStart => exact ⟨0, Nat.zero_le _, rfl, Own.nil _ _ _, Below.refl _ _⟩
  case round =>
    obtain ⟨k, hk, rfl, hO, hB⟩ := hrel
    by_cases hlt : k < n
    · have hk' : k < ls.length := by rw [← hn.out]; exact hlt
      obtain ⟨ob, oo, rfl, ai, ci, hc, hci, hby, hno⟩ := h.out k hk'
      have c1 := (hB.cell (block_lt_of_cell hc)).trans hc
      have hle := joinTo_le ls (k + 1)
      have hsucc := joinTo_succ ls hk'
      rw [hsucc, List.length_append] at hle
      clear hc
      generalize ls.getD k [] = d at *
      have hnews := (hby.below hB).news
      have hs := hB.size
      have hlen2 : (u8l (joinTo ls k)).length + d.length ≤ 1000000000 := by rw [u8l_len]; omega
      have ej : u8l (joinTo ls (k + 1)) = u8l (joinTo ls k) ++ u8l d := by rw [hsucc, u8l_append]
      replace hO := Lib.hid hO
      replace hB := Lib.hid hB
      replace hby := Lib.hid hby
      replace hno := Lib.hid hno
      replace hnews := Lib.hid hnews
      replace hs := Lib.hid hs
      replace hlen2 := Lib.hid hlen2
      replace ej := Lib.hid ej
      replace hsucc := Lib.hid hsucc
      replace hle := Lib.hid hle
      go_wp2_with (at_builtin; refine wpList_append_x rfl (.tmp 11) (.tmp 15) 22 rfl 5 Try.underlying22 (.int .u8 0) 1 infoU8 rfl (by decide) w.heap.size w u3 (u8l (joinTo ls k)) rfl hO.out hB.out hs.out ai d.length ci (u8l d) rfl (by simp [u8l]) hno.out hnews.out (u8l_one _) hlen2.out ?_; intro v5 w5 hO5 hB5 hg5 hb5)
      go_roundw
      case rel => exact ⟨k + 1, by omega, by go_num, by rw [ej.out]; exact hO5.out, hB5.out⟩
      case measure => simp [intOf]; omega
    · obtain rfl : k = n := by omega
      have ej : joinTo ls k = ls.flatten := by rw [hn.out]; exact joinTo_full ls
      rw [ej] at hO
      replace hO := Lib.hid hO
      replace hB := Lib.hid hB
      replace ej := Lib.hid ej
      go_wp2_with fail
      go_ret
      exact ⟨_, rfl, hO.out, hB.out⟩

end Go.Proofs.Ytjbmdeppoobccaa
