/-
  octet's Same: are two texts the same? Condition: lengths below 2^62.
  hmac's Expand. Conditions: the name is not too long.
-/
import Derived.Test.YtecmagenlbnchaaQHmacMac
import Derived.Test.YtecmagenlbnchaaQOctetPut
namespace Go.Proofs.Ytecmagenlbnchaa
set_option maxRecDepth 100000
open Go.RowKit

theorem or_zero' (a b : Nat) : a ||| b = 0 ↔ a = 0 ∧ b = 0 := Nat.or_eq_zero_iff
theorem xor_zero' (a b : Nat) : a ^^^ b = 0 ↔ a = b := by
  constructor
  · intro h
    have e : (a ^^^ b) ^^^ b = a := by rw [Nat.xor_assoc, Nat.xor_self, Nat.xor_zero]
    rw [h, Nat.zero_xor] at e
    exact e.symm
  · rintro rfl; exact Nat.xor_self a
theorem texts_eq {a b : List Nat} (hl : a.length = b.length) : (∀ j, j < a.length → byt a j = byt b j) ↔ a = b := by
  constructor
  · intro h
    apply List.ext_getElem hl
    intro i h1 h2
    have := h i h1
    simpa [byt, List.getD, h1, h2] using this
  · rintro rfl; intro _ _; rfl

set_option maxRecDepth 100000 in
theorem same_any (w : World) (va vb : Value) (a b : List Nat) (ha : TextAt w va a) (hb : TextAt w vb b) (h1 : a.length < 4611686018427387904) (h2 : b.length < 4611686018427387904) :
    Calls Try.prog 43 #[va, vb] w fun e w' => e = .returned (.bool (a == b)) ∧ w = w' := by
  have sa := byt_lt ha.small
  have sb := byt_lt hb.small
  obtain ⟨aa, ca, rfl, p1, p2, p3⟩ := ha.ex
  obtain ⟨ab, cb, rfl, q1, q2, q3⟩ := hb.ex
  obtain ⟨n, hn⟩ : ∃ n, n = a.length := ⟨_, rfl⟩
  obtain ⟨m, hm⟩ : ∃ m, m = b.length := ⟨_, rfl⟩
  obtain ⟨R, hR⟩ : ∃ R, R = (a == b) := ⟨_, rfl⟩
  rw [← hR]
  rw [← hn] at h1 p1 p3 ⊢
  rw [← hm] at h2 q1 q3 ⊢
  replace hn := Lib.hid hn
  replace hm := Lib.hid hm
  replace p2 := Lib.hid p2
  replace p3 := Lib.hid p3
  replace q2 := Lib.hid q2
  replace q3 := Lib.hid q3
  replace sa := Lib.hid sa
  replace sb := Lib.hid sb
  replace hR := Lib.hid hR
  replace ha := Lib.hid ha
  replace hb := Lib.hid hb
  by_cases he : n = m
  · subst he
    have d0 : (((n : Int)) != (n : Int)) = false := by simp
    go_enter Try.func43, Try.ntmps43
    go_wp2_with fail
    go_loop [5, 15] (fun v i => ∃ k x : Nat, k ≤ n ∧ x < 256 ∧ i = .int .i64 k ∧ v = .int .u8 x ∧ (x = 0 ↔ ∀ j, j < k → byt a j = byt b j)) (fun _ i => n - (intOf i).toNat)
    case atStart => exact ⟨0, 0, Nat.zero_le _, by decide, rfl, rfl, by simp⟩
    case round =>
      obtain ⟨k, x, hk, hx, rfl, rfl, hiff⟩ := hrel
      by_cases hlt : k < n
      · obtain ⟨_, ob, oo, rfl, ca1⟩ := p3.out k hlt
        obtain ⟨_, ob', oo', rfl, cb1⟩ := q3.out k hlt
        have l1 := sa.out k
        have l2 := sb.out k
        have nx : (x ||| (byt a k ^^^ byt b k) = 0) ↔ ∀ j, j < k + 1 → byt a j = byt b j := by
          rw [or_zero', xor_zero', hiff]
          constructor
          · rintro ⟨g1, g2⟩ j hj
            by_cases e : j = k
            · rw [e]; exact g2
            · exact g1 j (by omega)
          · intro g
            exact ⟨fun j hj => g j (by omega), g k (by omega)⟩
        generalize byt a k = c at *
        generalize byt b k = d at *
        have x1 := u8_xor_nat c d l1 l2
        have lx : c ^^^ d < 256 := Nat.xor_lt_two_pow (n := 8) l1 l2
        generalize c ^^^ d = z at *
        have x2 := u8_or_nat x z hx lx
        have lo : x ||| z < 256 := Nat.or_lt_two_pow (n := 8) hx lx
        generalize x ||| z = y at *
        replace nx := Lib.hid nx
        replace hiff := Lib.hid hiff
        go_wp2_with fail
        go_round
        case rel => exact ⟨k + 1, y, by omega, lo, by go_num, rfl, nx.out⟩
        case measure => simp [intOf]; omega
      · obtain rfl : k = n := by omega
        have eR : R = decide (x = 0) := by
          rw [hR.out, Bool.eq_iff_iff, beq_iff_eq, decide_eq_true_iff, hiff, ← texts_eq (by rw [← hn.out, ← hm.out]), ← hn.out]
        have ex : (((x : Int)) == 0) = decide (x = 0) := by
          rw [Bool.eq_iff_iff, beq_iff_eq, decide_eq_true_iff]; omega
        rw [← eR] at ex
        replace hiff := Lib.hid hiff
        replace eR := Lib.hid eR
        go_wp2_with fail
        go_ret
        exact ⟨rfl, rfl⟩
  · have d0 : (((n : Int)) != (m : Int)) = true := by simp; omega
    have eR : R = false := by
      rw [hR.out, beq_eq_false_iff_ne]
      intro e
      apply he
      rw [hn.out, hm.out, e]
    subst eR
    go_enter Try.func43, Try.ntmps43
    go_wp2_with fail
    go_ret
    exact ⟨rfl, rfl⟩


end Go.Proofs.Ytecmagenlbnchaa
namespace Go.Proofs.Ytecmagenlbnchaa
set_option maxRecDepth 100000
open Go.RowKit

theorem run_cut_hm {P : Program} {T e : TypeId} (hu : P.underlying T = some (.slice e)) (hs : (P.info? e).map (·.size) = some 1) (ao : Option Addr) (len cap n : Nat) (h : n ≤ cap) :
    ∀ x, (Instr.slice T (.slice ao len cap) none (some (.int .i64 (n : Int))) (some (.int .i64 (n : Int)))).run P x = .ok (.slice ao n n) x := fun x => by
  rw [run_slice_hm (P := P) x T ao len cap (by rw [elem_of hu]; exact hu) .i64 .i64 n n (by omega) (by omega) (by omega), elem_of hu, run_size hs]
  simp only [Result.andThen, sliced, Int.toNat_natCast, Nat.mul_one, Nat.sub_zero]
  congr 2
  cases ao with
  | none => simp
  | some a => simp [Addr.add]
theorem TextAt.cutCap {w : World} {ao : Option Addr} {t : List Nat} {n cap hi : Nat} (h : TextAt w (.slice ao n cap) t) (h2 : hi ≤ t.length) : TextAt w (.slice ao hi hi) (t.take hi) := by
  obtain ⟨ao', cap', e, g1, g2, g3⟩ := h.ex
  cases e
  have hl : (t.take hi).length = hi := by simp; omega
  refine ⟨ao, hi, by rw [hl], by omega, fun e => ?_, fun i hi' => ?_⟩
  · have := g2 e; omega
  · rw [hl] at hi'
    have eb : byt (t.take hi) i = byt t i := by
      simp only [byt, List.getD]
      rw [List.getElem?_take, if_pos hi']
    rw [eb]
    exact g3 i (by omega)

set_option maxRecDepth 100000 in
set_option maxHeartbeats 4000000 in
theorem expand_any (w : World) (key : List Nat) (an : Option Addr) (nl cn : Nat) (name : List Nat) (n : Nat) (kl : key.length = 32) (ks : ∀ x ∈ key, x < 256) (hN : TextAt w (.slice an nl cn) name) (el : name.length = nl) (hnl : nl < 1000000) (hn : n ≤ 8160) :
    Calls Try.prog 75 #[.agg (u8s key), .slice an nl cn, .int .i64 (n : Int)] w fun e w' => ∃ a, e = .returned (.tuple #[.slice a n n, .int .i64 0]) ∧ TextAt w' (.slice a n n) (expandOf key name n) ∧ Below w.heap.size w w' := by
  have i32 := fun t => info_sum t
  have d0 : ¬ ((n : Int) < 0) := by omega
  have d1 : ¬ ((8160 : Int) < (n : Int)) := by omega
  replace kl := Lib.hid kl
  replace ks := Lib.hid ks
  replace hN := Lib.hid hN
  replace el := Lib.hid el
  replace i32 := Lib.hid i32
  go_enter Try.func75, Try.ntmps75
  go_wp2_with fail
  go_step3
  go_wp2_with fail
  go_step3
  go_wp2_with fail
  generalize hwb : w.alloc (.cells (u8s key) 23) = wb
  have Kb : RowB wb w.heap.size 23 key := by rw [← hwb]; exact heap_alloc_new _ _
  have hwB : Below w.heap.size w wb := by rw [← hwb]; exact (Below.refl _ _).alloc (Nat.le_refl _) _
  have sb := Kb.lt
  have Nb := hN.out.below hwB
  replace hwb := Lib.hid hwb
  replace Kb := Lib.hid Kb
  replace hwB := Lib.hid hwB
  replace Nb := Lib.hid Nb
  go_loopw [8, 9, 10] (fun out last i wr => ∃ k : Nat, k ≤ (n + 31) / 32 ∧ i = .int .i64 ((k : Int) + 1) ∧ Own wr wb.heap.size 5 out (u8l (outTo key name k)) ∧ (∃ al nl' cl, last = .slice al nl' cl) ∧ TextAt wr last (lastTo key name k) ∧ Below wb.heap.size wb wr) (fun _ _ i _ => 256 - (intOf i).toNat)
  case atStart => exact ⟨0, Nat.zero_le _, rfl, Own.nil _ _ _, ⟨none, 0, 0, rfl⟩, TextAt.nil _, Below.refl _ _⟩
  case round =>
    obtain ⟨k, hk, rfl, hO, ⟨al, nl', cl, rfl⟩, hL, hB⟩ := hrel
    have hk255 : k ≤ 255 := by omega
    obtain ⟨ao, co, rfl, hco, _, hoz, _, _⟩ := hO.form
    rw [show (u8l (outTo key name k)).length = 32 * k by simp [u8l, outTo_length]] at hco hoz hO ⊢
    by_cases hgo : k < 255 ∧ 32 * k < n
    · obtain ⟨h1, h2⟩ := hgo
      have e1 : (k : Int) + 1 ≤ 255 := by omega
      have e2 : ¬ ((n : Int) ≤ ((32 * k : Nat) : Int)) := by omega
      have elast := lastTo_succ key name k
      rw [show (k + 1) % 256 = k + 1 by omega] at elast
      have eout := outTo_succ key name k
      have l1 := lastTo_le key name k
      have l2 := lastTo_length key name k
      have l3 := outTo_length key name k
      have sl := lastTo_small key name (k + 1)
      have so := outTo_small key name k
      have llast : nl' = (lastTo key name k).length := by
        obtain ⟨_, _, e, _, _, _⟩ := hL.ex
        cases e; rfl
      have iL : (Try.prog.info? 125).map (·.size) = some (u8s (lastTo key name (k + 1))).size := by rw [elast]; exact i32.out _
      generalize eqL : lastTo key name (k + 1) = L at *
      generalize lastTo key name k = P at *
      generalize eqO : outTo key name (k + 1) = O' at *
      generalize outTo key name k = O at *
      have hsr := hB.size
      replace hO := Lib.hid hO
      replace hL := Lib.hid hL
      replace hB := Lib.hid hB
      replace elast := Lib.hid elast
      replace eout := Lib.hid eout
      replace sl := Lib.hid sl
      replace so := Lib.hid so
      replace llast := Lib.hid llast
      replace iL := Lib.hid iL
      replace hoz := Lib.hid hoz
      replace eqL := Lib.hid eqL
      replace eqO := Lib.hid eqO
      go_wp2_with fail
      have low : Below wb.heap.size wb ((wr.alloc (.cells (u8s [k + 1]) 5)).alloc (.cells #[.slice al nl' cl, .slice an nl cn, .slice (some ⟨wr.heap.size, 0, none⟩) 1 1] 25)) := (hB.out.alloc hsr _).alloc (by simp; omega) _
      have kx : RowB ((wr.alloc (.cells (u8s [k + 1]) 5)).alloc (.cells #[.slice al nl' cl, .slice an nl cn, .slice (some ⟨wr.heap.size, 0, none⟩) 1 1] 25)) w.heap.size 23 key := Kb.out.other (low.block _ sb)
      have nx := (Nb.out.below (hB.out)).alloc (.cells (u8s [k + 1]) 5)
      have lx := hL.out.alloc (.cells (u8s [k + 1]) 5)
      have bx : RowB (wr.alloc (.cells (u8s [k + 1]) 5)) wr.heap.size 5 [k + 1] := heap_alloc_new _ _
      have mc := mac_any _ 32 (some ⟨w.heap.size, 0, none⟩) 32 key (kx.text ks.out kl.out) kl.out (by decide) (some ⟨wr.heap.size + 1, 0, none⟩) 3 3 [P, name, [k + 1]]
        (texts_of_row (vs := [.slice al nl' cl, .slice an nl cn, .slice (some ⟨wr.heap.size, 0, none⟩) 1 1]) (alloc_at' (by simp)) rfl (fun i v t hv ht => by
          match i with
          | 0 => cases hv; cases ht; exact lx.alloc _
          | 1 => cases hv; cases ht; exact nx.alloc _
          | 2 => cases hv; cases ht; exact (bx.text (by intro x hx; simp at hx; omega) rfl).alloc _)) rfl (fun e => by simp at e) (by decide) (by simp [el.out]; omega)
      rw [show [P, name, [k + 1]].flatten = P ++ name ++ [k + 1] by simp, ← elast.out] at mc
      refine Calls.mono (show Calls Try.prog 92 _ ((wr.alloc (.cells #[.int .u8 ((k : Int) + 1)] 5)).alloc (.cells #[.slice al nl' cl, .slice an nl cn, .slice (some ⟨wr.heap.size, 0, none⟩) 1 1] 25)) _ from mc) ?_
      rintro e w2 ⟨rfl, B2⟩
      have low2 : Below wb.heap.size wb w2 := low.trans (B2.mono low.size)
      have hO2 : Own w2 wb.heap.size 5 (.slice ao (32 * k) co) (u8l O) := ((hO.out.alloc _).alloc _).below B2
      have hs2 := low2.size
      replace low2 := Lib.hid low2
      replace hO2 := Lib.hid hO2
      replace B2 := Lib.hid B2
      clear low kx nx lx bx mc
      go_wp2_with (first
        | (refine wpList_store_n (by rfl) 125 (.tmp 11) (.tmp 33) rfl L rfl rfl iL.out (by simp [u8s, l2]) ?_; intro w3 R3 B3
           have low3 : Below wb.heap.size wb w3 := low2.out.trans (B3.out.mono hs2)
           have hO3 : Own w3 wb.heap.size 5 (.slice ao (32 * k) co) (u8l O) := hO2.out.below B3.out
           have hs3 := low3.size
           replace low3 := Lib.hid low3
           replace hO3 := Lib.hid hO3)
        | (at_builtin; refine wpList_append_t (by rfl) (.tmp 35) (.tmp 36) rfl wb.heap.size wb (.slice ao (32 * k) co) O rfl hO3.out low3.out hs3 (.slice (some ⟨w2.heap.size, 0, none⟩) 32 32) L rfl (R3.out.text sl.out l2) (by omega) ?_; intro v4 w4 O4 B4 g4 b4))
      have R4 : RowB w4 w2.heap.size 125 L := R3.out.other (g4.out.block _ R3.out.lt (fun e => by
        have := (hO2.out.lt _ e.symm).2
        omega))
      have T4 := R4.text sl.out l2
      replace R4 := Lib.hid R4
      replace T4 := Lib.hid T4
      go_roundw
      case rel => exact ⟨k + 1, by omega, by go_num, by rw [eqO.out, eout.out]; exact O4.out, ⟨_, _, _, rfl⟩, by rw [eqL.out]; exact T4.out, B4.out⟩
      case measure => simp [intOf]; omega
    · have hkn : k = (n + 31) / 32 := by omega
      have hle : n ≤ 32 * k := by omega
      have hT := hO.text (outTo_small key name k)
      rw [show u8l (outTo key name k) = u8l (outTo key name k) from rfl] at hO
      have hX : TextAt wr (.slice ao n n) (expandOf key name n) := by
        have h1 := hT.cutCap (hi := n) (by rw [outTo_length]; exact hle)
        unfold expandOf
        rw [← hkn]; exact h1
      have hcut := run_cut_hm (P := Try.prog) (T := 25) (e := 5) Try.underlying25 size8 ao (32 * k) co n (by omega)
      have low : Below w.heap.size w wr := hwB.out.trans (hB.mono hwB.out.size)
      have hx : (¬ ((k : Int) + 1 ≤ 255)) ∨ ((k : Int) + 1 ≤ 255 ∧ ((n : Int) ≤ ((32 * k : Nat) : Int))) := by omega
      replace hO := Lib.hid hO
      replace hL := Lib.hid hL
      replace hB := Lib.hid hB
      replace hT := Lib.hid hT
      replace hX := Lib.hid hX
      replace low := Lib.hid low
      replace hkn := Lib.hid hkn
      replace hgo := Lib.hid hgo
      replace hoz := Lib.hid hoz
      rcases hx with e1 | ⟨e1, e2⟩
      all_goals
        go_wp2_with fail
        (first | go_ret2 | (rw [Exit.noGoto_ret]; go_ret2))
        exact ⟨ao, rfl, hX.out, low.out⟩

end Go.Proofs.Ytecmagenlbnchaa
