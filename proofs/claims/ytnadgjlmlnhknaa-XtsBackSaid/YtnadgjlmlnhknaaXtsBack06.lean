/-
  The law XtsBack. Condition: keys of 32 bytes; a text.
-/
import Derived.Test.YtnadgjlmlnhknaaLaw06
namespace Go.Proofs.Ytnadgjlmlnhknaa
open Go.RowKit

set_option maxHeartbeats 4000000 in
set_option maxRecDepth 100000 in
theorem lxback_any (w : World) (k1 k2 : List Nat) (h1 : k1.length = 32) (s1 : ∀ x ∈ k1, x < 256) (h2 : k2.length = 32) (s2 : ∀ x ∈ k2, x < 256) (s : Nat) (ao : Option Addr) (l : List Nat) (n cap : Nat) (en : l.length = n) (hl : TextAt w (.slice ao n cap) l) (hn : n < 9223372036854775808) :
    Calls Try.prog 10 #[.agg (u8s k1), .agg (u8s k2), .int .u64 s, .slice ao n cap] w fun e w' => e = .returned (.bool true) ∧ Below w.heap.size w w' := by
  have r0 : RowB (w.alloc (.cells (u8s k1) 23)) w.heap.size 23 k1 := heap_alloc_new _ _
  have q1 : RowB ((w.alloc (.cells (u8s k1) 23)).alloc (.cells (u8s k2) 23)) (w.heap.size + 1) 23 k2 := by
    rw [show w.heap.size + 1 = (w.alloc (.cells (u8s k1) 23)).heap.size by simp]; exact heap_alloc_new _ _
  have q0 := r0.alloc (.cells (u8s k2) 23)
  have low : Below w.heap.size w ((w.alloc (.cells (u8s k1) 23)).alloc (.cells (u8s k2) 23)) := ((Below.refl _ _).alloc (Nat.le_refl _) _).alloc (by simp) _
  have t0 := hl.below low
  have i1 := info32 h1
  have i2 := info32 h2
  have hV : ∀ i, byt (wordsOf (byt k1)) i < 256 := words_lt (byt_small s1) 60
  have hW : ∀ i, byt (wordsOf (byt k2)) i < 256 := words_lt (byt_small s2) 60
  have cn := Lib.hid (xnew_any ((w.alloc (.cells (u8s k1) 23)).alloc (.cells (u8s k2) 23)) k1 k2 h1 s1 h2 s2)
  generalize byt (wordsOf (byt k1)) = V at *
  generalize byt (wordsOf (byt k2)) = W at *
  replace hV := Lib.hid hV
  replace hW := Lib.hid hW
  replace r0 := Lib.hid r0
  replace low := Lib.hid low
  replace t0 := Lib.hid t0
  replace hl := Lib.hid hl
  replace en := Lib.hid en
  replace s1 := Lib.hid s1
  replace s2 := Lib.hid s2
  by_cases h600 : 600 < n
  · have d : decide ((n : Int) > 600) = true := decide_eq_true (by omega)
    go_enter Try.func10, Try.ntmps10
    go_wp2_with fail
    refine (alive06 _).mono ?_
    rintro e w2 ⟨rfl, B2⟩
    have low2 := low.out.trans (B2.mono low.out.size)
    replace B2 := Lib.hid B2
    replace low2 := Lib.hid low2
    go_wp2_with fail
    go_ret
    exact ⟨rfl, low2.out⟩
  · have d : decide ((n : Int) > 600) = false := decide_eq_false (by omega)
    cases hs : sectorB n with
    | false =>
      have hb := Lib.hid (fun wx b (hx : XtsAt wx b V W) => xturn_bad wx b V W hx (twk s) ao n cap hn hs)
      have hf := of_decide_eq_false hs
      have hm : ((n : Int)).tmod 16 = ((n % 16 : Nat) : Int) := by rw [Int.tmod_eq_emod_of_nonneg (by omega)]; omega
      have dd : ((n : Int) == 0) = true ∨ (((n : Int) == 0) = false ∧ (((n % 16 : Nat) : Int) != 0) = true) := by
        by_cases h0 : n = 0
        · left; rw [h0]; rfl
        · right
          refine ⟨beq_eq_false_iff_ne.2 (by omega), ?_⟩
          have : (((n % 16 : Nat) : Int) == 0) = false := beq_eq_false_iff_ne.2 (by omega)
          rw [bne, this]; rfl
      clear hf hs
      generalize n % 16 = m at *
      go_enter Try.func10, Try.ntmps10
      go_wp2_with (first
        | (refine wpList_load_b (by rfl) 23 (.tmp 4) rfl w.heap.size rfl 23 k1 q0 _ Try.underlying23 rfl i1 ?_)
        | (refine wpList_load_b (by rfl) 23 (.tmp 5) rfl (w.heap.size + 1) rfl 23 k2 q1 _ Try.underlying23 rfl i2 ?_))
      refine cn.out.mono ?_
      rintro e w1 ⟨b, rfl, hb0, hX, B1⟩
      have low1 := low.out.trans (B1.mono low.out.size)
      clear cn q0 q1
      replace hb0 := Lib.hid hb0
      replace hX := Lib.hid hX
      replace B1 := Lib.hid B1
      replace low1 := Lib.hid low1
      go_wp2_with fail
      refine (xtweak_any s _).mono ?_
      rintro e w2 ⟨rfl, B2⟩
      have hX2 := hX.out.below B2
      have low2 := low1.out.trans (B2.mono low1.out.size)
      replace B2 := Lib.hid B2
      replace hX2 := Lib.hid hX2
      replace low2 := Lib.hid low2
      go_wp2_with fail
      refine (hb.out _ _ hX2.out).mono ?_
      rintro e w3 ⟨rfl, B3⟩
      have low3 := low2.out.trans (B3.mono low2.out.size)
      clear hb
      replace B3 := Lib.hid B3
      replace low3 := Lib.hid low3
      rcases dd with d1 | ⟨d1, d2⟩
      all_goals
        go_wp2_with fail
        refine (alive06 _).mono ?_
        rintro e w4 ⟨rfl, B4⟩
        have low4 := low3.out.trans (B4.mono low3.out.size)
        replace B4 := Lib.hid B4
        replace low4 := Lib.hid low4
        go_wp2_with fail
        go_ret
        exact ⟨rfl, low4.out⟩
    | true =>
      have hf := of_decide_eq_true hs
      have hm : ((n : Int)).tmod 16 = 0 := by rw [Int.tmod_eq_emod_of_nonneg (by omega)]; omega
      have d0 : ((n : Int) == 0) = false := beq_eq_false_iff_ne.2 (by omega)
      have ct := fun wx b (hx : XtsAt wx b V W) ao' (l' : List Nat) cap' (e' : l'.length = n) (t' : TextAt wx (.slice ao' n cap') l') => xturn_ok wx b V W hx hV.out hW.out (twk s) (twk_lt s) ao' l' n cap' e' t' hs
      have cb := fun wx b (hx : XtsAt wx b V W) ao' (l' : List Nat) cap' (e' : l'.length = n) (t' : TextAt wx (.slice ao' n cap') l') => xback_ok wx b V W hx hV.out hW.out (twk s) (twk_lt s) ao' l' n cap' e' t' hs
      have bM := bytes_turn hW.out (twk_lt s)
      generalize turnF W (twk s) = M at *
      have sl : ∀ x ∈ l, x < 256 := hl.out.small
      have e1 := sec_back (m := M) (fun x hx => back_turn hV.out hx) (fun x y h => same_back h) bM (by rw [en.out]; exact hf.2.1) sl
      have e2 := sec_back (m := M) (fun x hx => turn_back hV.out hx) (fun x y h => same_turn h) bM (by rw [en.out]; exact hf.2.1) sl
      have sX : ∀ x ∈ bytesOf (sec (turnF V) M (byt l)) n, x < 256 := bytesOf_lt fun i _ => sec_lt (fun x hx => bytes_turn hV.out hx) bM (byt_lt sl) i
      have sZ : ∀ x ∈ bytesOf (sec (backF V) M (byt l)) n, x < 256 := bytesOf_lt fun i _ => sec_lt (fun x hx => bytes_back hV.out hx) bM (byt_lt sl) i
      have lX : (bytesOf (sec (turnF V) M (byt l)) n).length = n := length_bytesOf _ _
      have lZ : (bytesOf (sec (backF V) M (byt l)) n).length = n := length_bytesOf _ _
      rw [en.out] at e1 e2
      have c1 := fun wx b hx ao' cap' t' => ct wx b hx ao' l cap' en.out t'
      have c3 := fun wx b hx ao' cap' t' => cb wx b hx ao' l cap' en.out t'
      have c2 := fun wx b hx ao' cap' t' => cb wx b hx ao' _ cap' lX t'
      have c4 := fun wx b hx ao' cap' t' => ct wx b hx ao' _ cap' lZ t'
      rw [e1] at c2
      rw [e2] at c4
      clear ct cb e1 e2 hs
      generalize bytesOf (sec (turnF V) M (byt l)) n = X at *
      generalize bytesOf (sec (backF V) M (byt l)) n = Z at *
      replace hf := Lib.hid hf
      replace bM := Lib.hid bM
      replace sl := Lib.hid sl
      replace sX := Lib.hid sX
      replace sZ := Lib.hid sZ
      replace lX := Lib.hid lX
      replace lZ := Lib.hid lZ
      replace c1 := Lib.hid c1
      replace c2 := Lib.hid c2
      replace c3 := Lib.hid c3
      replace c4 := Lib.hid c4
      go_enter Try.func10, Try.ntmps10
      go_wp2_with (first
        | (refine wpList_load_b (by rfl) 23 (.tmp 4) rfl w.heap.size rfl 23 k1 q0 _ Try.underlying23 rfl i1 ?_)
        | (refine wpList_load_b (by rfl) 23 (.tmp 5) rfl (w.heap.size + 1) rfl 23 k2 q1 _ Try.underlying23 rfl i2 ?_))
      refine cn.out.mono ?_
      rintro e w1 ⟨b, rfl, hb0, hX, B1⟩
      have low1 := low.out.trans (B1.mono low.out.size)
      have t1 := t0.out.below B1
      clear cn q0 q1
      replace hb0 := Lib.hid hb0
      replace hX := Lib.hid hX
      replace B1 := Lib.hid B1
      replace low1 := Lib.hid low1
      replace t1 := Lib.hid t1
      go_wp2_with fail
      refine (xtweak_any s _).mono ?_
      rintro e w2 ⟨rfl, B2⟩
      have hX2 := hX.out.below B2
      have t2 := t1.out.below B2
      have low2 := low1.out.trans (B2.mono low1.out.size)
      replace B2 := Lib.hid B2
      replace hX2 := Lib.hid hX2
      replace low2 := Lib.hid low2
      replace t2 := Lib.hid t2
      go_wp2_with fail
      refine (c1.out _ _ hX2.out _ _ t2.out).mono ?_
      rintro e w3 ⟨v3, rfl, o3, B3⟩
      have hX3 := hX2.out.below B3
      have low3 := low2.out.trans (B3.mono low2.out.size)
      have t3 := t2.out.below B3
      have u3 := o3.text sX.out
      obtain ⟨a3, p3, e3, g3⟩ := u3.ex
      rw [lX.out] at e3
      subst e3
      replace hX3 := Lib.hid hX3
      replace low3 := Lib.hid low3
      replace t3 := Lib.hid t3
      replace u3 := Lib.hid u3
      replace B3 := Lib.hid B3
      replace o3 := Lib.hid o3
      replace g3 := Lib.hid g3
      go_wp2_with fail
      refine (xtweak_any s _).mono ?_
      rintro e w4 ⟨rfl, B4⟩
      have hX4 := hX3.out.below B4
      have t4 := t3.out.below B4
      have u4 := u3.out.below B4
      have low4 := low3.out.trans (B4.mono low3.out.size)
      replace B4 := Lib.hid B4
      replace hX4 := Lib.hid hX4
      replace low4 := Lib.hid low4
      replace t4 := Lib.hid t4
      replace u4 := Lib.hid u4
      go_wp2_with fail
      refine (c2.out _ _ hX4.out _ _ u4.out).mono ?_
      rintro e w5 ⟨v5, rfl, o5, B5⟩
      have hX5 := hX4.out.below B5
      have low5 := low4.out.trans (B5.mono low4.out.size)
      have t5 := t4.out.below B5
      have x5 := o5.text sl.out
      replace hX5 := Lib.hid hX5
      replace low5 := Lib.hid low5
      replace t5 := Lib.hid t5
      replace x5 := Lib.hid x5
      replace B5 := Lib.hid B5
      replace o5 := Lib.hid o5
      go_wp2_with fail
      refine (xtweak_any s _).mono ?_
      rintro e w6 ⟨rfl, B6⟩
      have hX6 := hX5.out.below B6
      have t6 := t5.out.below B6
      have x6 := x5.out.below B6
      have low6 := low5.out.trans (B6.mono low5.out.size)
      replace B6 := Lib.hid B6
      replace hX6 := Lib.hid hX6
      replace low6 := Lib.hid low6
      replace t6 := Lib.hid t6
      replace x6 := Lib.hid x6
      go_wp2_with fail
      refine (c3.out _ _ hX6.out _ _ t6.out).mono ?_
      rintro e w7 ⟨v7, rfl, o7, B7⟩
      have hX7 := hX6.out.below B7
      have low7 := low6.out.trans (B7.mono low6.out.size)
      have t7 := t6.out.below B7
      have x7 := x6.out.below B7
      have z7 := o7.text sZ.out
      obtain ⟨a7, p7, e7, g7⟩ := z7.ex
      rw [lZ.out] at e7
      subst e7
      replace hX7 := Lib.hid hX7
      replace low7 := Lib.hid low7
      replace t7 := Lib.hid t7
      replace x7 := Lib.hid x7
      replace z7 := Lib.hid z7
      replace B7 := Lib.hid B7
      replace o7 := Lib.hid o7
      replace g7 := Lib.hid g7
      go_wp2_with fail
      refine (xtweak_any s _).mono ?_
      rintro e w8 ⟨rfl, B8⟩
      have hX8 := hX7.out.below B8
      have t8 := t7.out.below B8
      have x8 := x7.out.below B8
      have z8 := z7.out.below B8
      have low8 := low7.out.trans (B8.mono low7.out.size)
      replace B8 := Lib.hid B8
      replace hX8 := Lib.hid hX8
      replace low8 := Lib.hid low8
      replace t8 := Lib.hid t8
      replace x8 := Lib.hid x8
      replace z8 := Lib.hid z8
      go_wp2_with fail
      refine (c4.out _ _ hX8.out _ _ z8.out).mono ?_
      rintro e w9 ⟨v9, rfl, o9, B9⟩
      have low9 := low8.out.trans (B9.mono low8.out.size)
      have t9 := t8.out.below B9
      have x9 := x8.out.below B9
      have y9 := o9.text sl.out
      replace low9 := Lib.hid low9
      replace t9 := Lib.hid t9
      replace x9 := Lib.hid x9
      replace y9 := Lib.hid y9
      replace B9 := Lib.hid B9
      replace o9 := Lib.hid o9
      go_wp2_with fail
      refine (alive06 _).mono ?_
      rintro e wa ⟨rfl, Ba⟩
      have lowa := low9.out.trans (Ba.mono low9.out.size)
      have r1 := run_str (t9.out.below Ba)
      have r2 := run_str (x9.out.below Ba)
      have r3 := run_str (y9.out.below Ba)
      replace lowa := Lib.hid lowa
      replace Ba := Lib.hid Ba
      go_wp2_with fail
      go_ret
      exact ⟨rfl, lowa.out⟩
end Go.Proofs.Ytnadgjlmlnhknaa
