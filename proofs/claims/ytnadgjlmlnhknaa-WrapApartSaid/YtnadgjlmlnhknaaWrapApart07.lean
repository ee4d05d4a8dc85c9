/-
  Law WrapApart: unlike words of one number are wrapped to unlike ones. Conditions: a key of 32 bytes; texts not too long.
-/
import Derived.Test.YtnadgjlmlnhknaaLaw07
namespace Go.Proofs.Ytnadgjlmlnhknaa
open Go.RowKit

structure ApartSt (w : World) (vx vy va vb : Value) (X Y a b : List Nat) : Prop where
  x : TextAt w vx X
  y : TextAt w vy Y
  a : TextAt w va a
  b : TextAt w vb b
theorem ApartSt.below {w w' : World} {vx vy va vb : Value} {X Y a b : List Nat} (h : ApartSt w vx vy va vb X Y a b) (hB : Below w.heap.size w w') : ApartSt w' vx vy va vb X Y a b :=
  ⟨h.x.below hB, h.y.below hB, h.a.below hB, h.b.below hB⟩

set_option maxHeartbeats 4000000 in
set_option maxRecDepth 100000 in
theorem wrapApart_any (w : World) (key : List Nat) (hk : key.length = 32) (hs : ∀ x ∈ key, x < 256) (va : Value) (ta : List Nat) (ha : TextAt w va ta) (hla : ta.length < 9223372036854775808) (vb : Value) (tb : List Nat) (hb : TextAt w vb tb) (hlb : tb.length < 9223372036854775808) :
    Calls Try.prog 16 #[.agg (u8s key), va, vb] w fun e w' => e = .returned (.bool true) ∧ Below w.heap.size w w' := by
  obtain ⟨aa, ca, rfl, _⟩ := ha.ex
  obtain ⟨ab, cb, rfl, _⟩ := hb.ex
  obtain ⟨ma, ea⟩ : ∃ m, m = ta.length := ⟨_, rfl⟩
  obtain ⟨mb, eb⟩ : ∃ m, m = tb.length := ⟨_, rfl⟩
  rw [← ea] at ha hla ⊢
  rw [← eb] at hb hlb ⊢
  have al := Lib.hid (fun x => alive07 x)
  have B0 : Below w.heap.size w (w.alloc (.cells (u8s key) 23)) := (Below.refl _ _).alloc (Nat.le_refl _) _
  replace ha := Lib.hid ha
  replace hb := Lib.hid hb
  replace ea := Lib.hid ea
  replace eb := Lib.hid eb
  by_cases g : 128 < ma ∨ ¬ ma = mb
  · by_cases g0 : 128 < ma
    · have d : decide ((ma : Int) > 128) = true := decide_eq_true (by omega)
      replace B0 := Lib.hid B0
      go_enter Try.func16, Try.ntmps16
      go_wp2_with fail
      refine (al.out _).mono ?_
      rintro e w2 ⟨rfl, B2⟩
      have low := B0.out.trans (B2.mono B0.out.size)
      replace low := Lib.hid low
      go_wp2_with fail
      go_ret
      exact ⟨rfl, low.out⟩
    · have d : decide ((ma : Int) > 128) = false := decide_eq_false (by omega)
      have d2 : ¬ ((ma : Int) = (mb : Int)) := by omega
      have d3 : ¬ (ma = mb) := by omega
      replace B0 := Lib.hid B0
      go_enter Try.func16, Try.ntmps16
      go_wp2_with fail
      refine (al.out _).mono ?_
      rintro e w2 ⟨rfl, B2⟩
      have low := B0.out.trans (B2.mono B0.out.size)
      replace low := Lib.hid low
      go_wp2_with fail
      go_ret
      exact ⟨rfl, low.out⟩
  · obtain rfl : ma = mb := by omega
    have d : decide ((ma : Int) > 128) = false := decide_eq_false (by omega)
    have Rk : RowB (w.alloc (.cells (u8s key) 23)) w.heap.size 23 key := heap_alloc_new _ _
    have ik := info32 hk
    have cw1 := Lib.hid (wrap_st (w.alloc (.cells (u8s key) 23)) key hk hs (.slice aa ma ca) ta (ha.out.below B0) (by rw [← ea.out]; omega))
    have hV := words_lt (key := byt key) (byt_lt hs) 60
    have hE : wrapE tb = wrapE ta := by unfold wrapE; rw [← ea.out, ← eb.out]
    have inj : wrapE ta = 0 → ((if fitsB ta.length 0 = true then wrapL (byt (wordsOf (byt key))) ta else []) == (if fitsB tb.length 0 = true then wrapL (byt (wordsOf (byt key))) tb else [])) = (ta == tb) := fun h0 => by
      have hf : fitsB ma 0 = true := by
        unfold wrapE at h0
        rw [← ea.out] at h0
        by_cases h : fitsB ma 0 = true
        · exact h
        · rw [if_neg h] at h0; exact absurd h0 (by decide)
      rw [← ea.out, ← eb.out, if_pos hf, if_pos hf, Bool.eq_iff_iff, beq_iff_eq, beq_iff_eq]
      obtain ⟨h8, h16, _⟩ := of_decide_eq_true hf
      exact ⟨fun e => wrapL_inj hV ha.out.small hb.out.small (by rw [← ea.out, ← eb.out]) (by rw [← ea.out]; exact h8) (by rw [← ea.out]; omega) e, fun e => by rw [e]⟩
    obtain ⟨X, eX⟩ : ∃ X, X = (if fitsB ta.length 0 = true then wrapL (byt (wordsOf (byt key))) ta else []) := ⟨_, rfl⟩
    obtain ⟨Y, eY⟩ : ∃ Y, Y = (if fitsB tb.length 0 = true then wrapL (byt (wordsOf (byt key))) tb else []) := ⟨_, rfl⟩
    rw [← eX] at cw1
    rw [← eX, ← eY] at inj
    replace B0 := Lib.hid B0
    replace Rk := Lib.hid Rk
    replace hV := Lib.hid hV
    replace hE := Lib.hid hE
    replace inj := Lib.hid inj
    replace eX := Lib.hid eX
    replace eY := Lib.hid eY
    go_enter Try.func16, Try.ntmps16
    go_wp2_with (refine wpList_load_b (by rfl) 23 (.tmp 3) rfl w.heap.size rfl 23 key Rk.out _ Try.underlying23 rfl ik ?_)
    refine cw1.out.mono ?_
    clear cw1
    rintro e w1 ⟨vx, rfl, tx, B1⟩
    have low1 := B0.out.trans (B1.mono B0.out.size)
    have K1 := RowB.below Rk.out B1 Rk.out.lt
    have cw2 := Lib.hid (wrap_st w1 key hk hs (.slice ab ma cb) tb (hb.out.below low1) (by rw [← eb.out]; omega))
    rw [← eY.out, hE.out] at cw2
    replace low1 := Lib.hid low1
    replace K1 := Lib.hid K1
    replace tx := Lib.hid tx
    replace B1 := Lib.hid B1
    go_wp2_with (refine wpList_load_b (by rfl) 23 (.tmp 3) rfl w.heap.size rfl 23 key K1.out _ Try.underlying23 rfl ik ?_)
    refine cw2.out.mono ?_
    clear cw2
    rintro e w2 ⟨vy, rfl, ty, B2⟩
    have low2 := low1.out.trans (B2.mono low1.out.size)
    have A2 : ApartSt w2 vx vy (.slice aa ma ca) (.slice ab ma cb) X Y ta tb := ⟨tx.out.below B2, ty, ha.out.below low2, hb.out.below low2⟩
    replace low2 := Lib.hid low2
    replace A2 := Lib.hid A2
    replace ty := Lib.hid ty
    replace B2 := Lib.hid B2
    go_wp2_with fail
    refine (al.out _).mono ?_
    rintro e w3 ⟨rfl, B3⟩
    have A3 := A2.out.below B3
    have low3 := low2.out.trans (B3.mono low2.out.size)
    have r1 := run_str A3.x
    have r2 := run_str A3.y
    have r3 := run_str A3.a
    have r4 := run_str A3.b
    have sd := str_dec A3.x.small A3.y.small
    have sl := str_lst A3.x.small A3.y.small
    have sd2 := str_dec A3.a.small A3.b.small
    have sl2 := str_lst A3.a.small A3.b.small
    replace A3 := Lib.hid A3
    replace low3 := Lib.hid low3
    replace B3 := Lib.hid B3
    by_cases h0 : wrapE ta = 0
    · rw [inj.out h0] at sd sl
      generalize (ta == tb) = qq at *
      generalize wrapE ta = E at *
      subst h0
      cases qq with
      | true =>
        have e1 := of_decide_eq_true sd
        have e2 := of_decide_eq_true sd2
        go_wp2_with fail
        go_ret
        exact ⟨rfl, low3.out⟩
      | false =>
        have e1 := of_decide_eq_false sd
        have e2 := of_decide_eq_false sd2
        go_wp2_with fail
        go_ret
        exact ⟨rfl, low3.out⟩
    · generalize wrapE ta = E at *
      clear r1 r2 r3 r4 sd sl sd2 sl2
      go_wp2_with fail
      go_ret
      exact ⟨rfl, low3.out⟩
end Go.Proofs.Ytnadgjlmlnhknaa
