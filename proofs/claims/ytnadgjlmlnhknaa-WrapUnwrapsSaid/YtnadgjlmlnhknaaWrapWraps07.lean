/-
  The laws WrapWraps and WrapUnwraps. Condition: a key of 32 bytes, a text.
-/
import Derived.Test.YtnadgjlmlnhknaaRef07d
import Derived.Test.YtnadgjlmlnhknaaLaw07
namespace Go.Proofs.Ytnadgjlmlnhknaa
open Go.RowKit

/-- What Wrap says, and its text. -/
def wrapT (V : Nat → Nat) (t : List Nat) : List Nat := if fitsB t.length 0 = true then wrapL V t else []
def unwT (V : Nat → Nat) (t : List Nat) : List Nat := if unwE V t = 0 then (unL V t).drop 8 else []
theorem wrap_st2 (w : World) (key : List Nat) (hk : key.length = 32) (hs : ∀ x ∈ key, x < 256) (v : Value) (t : List Nat) (ht : TextAt w v t) (hl : t.length < 9223372036854775808) :
    Calls Try.prog 35 #[.agg (u8s key), v] w fun e w' => ∃ x, e = .returned (.tuple #[x, .int .i64 (wrapE t)]) ∧ TextAt w' x (wrapT (byt (wordsOf (byt key))) t) ∧ Below w.heap.size w w' := wrap_st w key hk hs v t ht hl
theorem unwrap_st2 (w : World) (key : List Nat) (hk : key.length = 32) (hs : ∀ x ∈ key, x < 256) (v : Value) (t : List Nat) (ht : TextAt w v t) (hl : t.length < 9223372036854775808) :
    Calls Try.prog 37 #[.agg (u8s key), v] w fun e w' => ∃ x, e = .returned (.tuple #[x, .int .i64 (unwE (byt (wordsOf (byt key))) t)]) ∧ TextAt w' x (unwT (byt (wordsOf (byt key))) t) ∧ Below w.heap.size w w' := unwrap_st w key hk hs v t ht hl
theorem r7wrap_st (w : World) (vk : Value) (key : List Nat) (hk : key.length = 32) (htk : TextAt w vk key) (v : Value) (t : List Nat) (ht : TextAt w v t) (hl : t.length < 9223372036854775808) :
    Calls Try.prog 36 #[vk, v] w fun e w' => ∃ x, e = .returned (.tuple #[x, .int .i64 (wrapE t)]) ∧ TextAt w' x (wrapT (byt (wordsOf (byt key))) t) ∧ Below w.heap.size w w' := by
  obtain ⟨ao, cap, rfl, _⟩ := ht.ex
  unfold wrapE wrapT
  cases hf : fitsB t.length 0 with
  | true => exact r7wrap_ok w vk key hk htk ao t _ cap rfl ht hf
  | false =>
    refine (r7wrap_bad w vk ao _ cap hl hf).mono ?_
    rintro e w' ⟨rfl, h2⟩
    exact ⟨_, rfl, TextAt.nil _, h2⟩
theorem r7unwrap_st (w : World) (vk : Value) (key : List Nat) (hk : key.length = 32) (htk : TextAt w vk key) (v : Value) (t : List Nat) (ht : TextAt w v t) (hl : t.length < 9223372036854775808) :
    Calls Try.prog 38 #[vk, v] w fun e w' => ∃ x, e = .returned (.tuple #[x, .int .i64 (unwE (byt (wordsOf (byt key))) t)]) ∧ TextAt w' x (unwT (byt (wordsOf (byt key))) t) ∧ Below w.heap.size w w' := by
  obtain ⟨ao, cap, rfl, _⟩ := ht.ex
  unfold unwT unwE
  cases hf : fitsB t.length 1 with
  | true =>
    refine (r7unwrap_ok w vk key hk htk ao t _ cap rfl ht hf).mono ?_
    rintro e w' ⟨⟨x, rfl, h1, h2⟩, h3⟩
    refine ⟨x, rfl, ?_, h3⟩
    by_cases h : (unL (byt (wordsOf (byt key))) t).take 8 = List.replicate 8 166
    · rw [if_pos rfl, if_pos h, if_pos rfl]; exact h1 h
    · rw [if_pos rfl, if_neg h, if_neg (by decide), h2 h]; exact TextAt.nil _
  | false =>
    refine (r7unwrap_bad w vk ao _ cap hl hf).mono ?_
    rintro e w' ⟨rfl, h2⟩
    exact ⟨_, rfl, TextAt.nil _, h2⟩

set_option maxHeartbeats 4000000 in
set_option maxRecDepth 100000 in
theorem lwraps_any (w : World) (key : List Nat) (hk : key.length = 32) (hs : ∀ x ∈ key, x < 256) (v : Value) (t : List Nat) (ht : TextAt w v t) (hl : t.length < 9223372036854775808) :
    Calls Try.prog 13 #[.agg (u8s key), v] w fun e w' => e = .returned (.bool true) ∧ Below w.heap.size w w' := by
  have r0 : RowB (w.alloc (.cells (u8s key) 23)) w.heap.size 23 key := heap_alloc_new _ _
  have low0 : Below w.heap.size w (w.alloc (.cells (u8s key) 23)) := (Below.refl _ _).alloc (Nat.le_refl _) _
  have i32 := info32 hk
  have t0 := ht.below low0
  have c1 := wrap_st2 (w.alloc (.cells (u8s key) 23)) key hk hs v t t0 hl
  have c2 := fun wx vk (h : TextAt wx vk key) (h' : TextAt wx v t) => r7wrap_st wx vk key hk h v t h' hl
  have al := Lib.hid (fun x => alive07 x)
  obtain ⟨ao, cap, rfl, _⟩ := ht.ex
  obtain ⟨m, em⟩ : ∃ m, m = t.length := ⟨_, rfl⟩
  generalize wrapT (byt (wordsOf (byt key))) t = T at *
  generalize (wrapE t) = E at *
  rw [← em] at c1 c2 t0 hl ⊢
  replace r0 := Lib.hid r0
  replace low0 := Lib.hid low0
  replace t0 := Lib.hid t0
  replace c1 := Lib.hid c1
  replace c2 := Lib.hid c2
  replace ht := Lib.hid ht
  replace hk := Lib.hid hk
  replace hs := Lib.hid hs
  replace em := Lib.hid em
  by_cases g : 400 < m
  · have d : decide ((m : Int) > 400) = true := decide_eq_true (by omega)
    go_enter Try.func13, Try.ntmps13
    go_wp2_with fail
    refine (al.out _).mono ?_
    rintro e w2 ⟨rfl, B2⟩
    have low := low0.out.trans (B2.mono low0.out.size)
    replace low := Lib.hid low
    go_wp2_with fail
    go_ret
    exact ⟨rfl, low.out⟩
  · have d : decide ((m : Int) > 400) = false := decide_eq_false (by omega)
    go_enter Try.func13, Try.ntmps13
    go_wp2_with (refine wpList_load_b (by rfl) 23 (.tmp 2) rfl w.heap.size rfl 23 key r0.out _ Try.underlying23 rfl i32 ?_)
    refine c1.out.mono ?_
    rintro e w1 ⟨vx, rfl, tx, B1⟩
    have r1 := r0.out.below B1 r0.out.lt
    have low1 := low0.out.trans (B1.mono low0.out.size)
    have t1 := t0.out.below B1
    clear c1
    replace r1 := Lib.hid r1
    replace low1 := Lib.hid low1
    replace t1 := Lib.hid t1
    replace tx := Lib.hid tx
    go_wp2_with fail
    refine (c2.out _ _ (row_text r1.out hs.out hk.out) t1.out).mono ?_
    rintro e w2 ⟨vy, rfl, ty, B2⟩
    have low2 := low1.out.trans (B2.mono low1.out.size)
    have x2 := tx.out.below B2
    replace low2 := Lib.hid low2
    replace x2 := Lib.hid x2
    replace ty := Lib.hid ty
    go_wp2_with fail
    refine (al.out _).mono ?_
    rintro e w3 ⟨rfl, B3⟩
    have low3 := low2.out.trans (B3.mono low2.out.size)
    have q1 := run_str (x2.out.below B3)
    have q2 := run_str (ty.out.below B3)
    replace low3 := Lib.hid low3
    go_wp2_with fail
    go_ret
    exact ⟨rfl, low3.out⟩
set_option maxHeartbeats 4000000 in
set_option maxRecDepth 100000 in
theorem lunwraps_any (w : World) (key : List Nat) (hk : key.length = 32) (hs : ∀ x ∈ key, x < 256) (v : Value) (t : List Nat) (ht : TextAt w v t) (hl : t.length < 9223372036854775808) :
    Calls Try.prog 14 #[.agg (u8s key), v] w fun e w' => e = .returned (.bool true) ∧ Below w.heap.size w w' := by
  have r0 : RowB (w.alloc (.cells (u8s key) 23)) w.heap.size 23 key := heap_alloc_new _ _
  have low0 : Below w.heap.size w (w.alloc (.cells (u8s key) 23)) := (Below.refl _ _).alloc (Nat.le_refl _) _
  have i32 := info32 hk
  have t0 := ht.below low0
  have c1 := unwrap_st2 (w.alloc (.cells (u8s key) 23)) key hk hs v t t0 hl
  have c2 := fun wx vk (h : TextAt wx vk key) (h' : TextAt wx v t) => r7unwrap_st wx vk key hk h v t h' hl
  have al := Lib.hid (fun x => alive07 x)
  obtain ⟨ao, cap, rfl, _⟩ := ht.ex
  obtain ⟨m, em⟩ : ∃ m, m = t.length := ⟨_, rfl⟩
  generalize unwT (byt (wordsOf (byt key))) t = T at *
  generalize (unwE (byt (wordsOf (byt key))) t) = E at *
  rw [← em] at c1 c2 t0 hl ⊢
  replace r0 := Lib.hid r0
  replace low0 := Lib.hid low0
  replace t0 := Lib.hid t0
  replace c1 := Lib.hid c1
  replace c2 := Lib.hid c2
  replace ht := Lib.hid ht
  replace hk := Lib.hid hk
  replace hs := Lib.hid hs
  replace em := Lib.hid em
  by_cases g : 400 < m
  · have d : decide ((m : Int) > 400) = true := decide_eq_true (by omega)
    go_enter Try.func14, Try.ntmps14
    go_wp2_with fail
    refine (al.out _).mono ?_
    rintro e w2 ⟨rfl, B2⟩
    have low := low0.out.trans (B2.mono low0.out.size)
    replace low := Lib.hid low
    go_wp2_with fail
    go_ret
    exact ⟨rfl, low.out⟩
  · have d : decide ((m : Int) > 400) = false := decide_eq_false (by omega)
    go_enter Try.func14, Try.ntmps14
    go_wp2_with (refine wpList_load_b (by rfl) 23 (.tmp 2) rfl w.heap.size rfl 23 key r0.out _ Try.underlying23 rfl i32 ?_)
    refine c1.out.mono ?_
    rintro e w1 ⟨vx, rfl, tx, B1⟩
    have r1 := r0.out.below B1 r0.out.lt
    have low1 := low0.out.trans (B1.mono low0.out.size)
    have t1 := t0.out.below B1
    clear c1
    replace r1 := Lib.hid r1
    replace low1 := Lib.hid low1
    replace t1 := Lib.hid t1
    replace tx := Lib.hid tx
    go_wp2_with fail
    refine (c2.out _ _ (row_text r1.out hs.out hk.out) t1.out).mono ?_
    rintro e w2 ⟨vy, rfl, ty, B2⟩
    have low2 := low1.out.trans (B2.mono low1.out.size)
    have x2 := tx.out.below B2
    replace low2 := Lib.hid low2
    replace x2 := Lib.hid x2
    replace ty := Lib.hid ty
    go_wp2_with fail
    refine (al.out _).mono ?_
    rintro e w3 ⟨rfl, B3⟩
    have low3 := low2.out.trans (B3.mono low2.out.size)
    have q1 := run_str (x2.out.below B3)
    have q2 := run_str (ty.out.below B3)
    replace low3 := Lib.hid low3
    go_wp2_with fail
    go_ret
    exact ⟨rfl, low3.out⟩
end Go.Proofs.Ytnadgjlmlnhknaa
