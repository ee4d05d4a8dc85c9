/-
  octet's Same: are two texts the same? Condition: lengths below 2^62.
-/
import Derived.Test.YtjbmdeppoobccaaHmacMac
namespace Go.Proofs.Ytjbmdeppoobccaa
open Go.RowKit

theorem or_zero' (a b : Nat) : a ||| b = 0 ↔ a = 0 ∧ b = 0 := Nat.or_eq_zero_iff
theorem xor_zero' (a b : Nat) : a ^^^ b = 0 ↔ a = b := by
  constructor
  · intro h
    have e : (a ^^^ b) ^^^ b = a := by rw [Nat.xor_assoc, Nat.xor_self, Nat.xor_zero]
    rw [h, Nat.zero_xor] at e
    exact e.symm
  · rintro rfl; exact Nat.xor_self a
theorem texts_eq {a b : List Nat} (hl : a.length = b.length) : (∀ j, j < a.length → byt a j = byt b j) ↔ a = b := by
  constructor
  · intro h
    apply List.ext_getElem hl
    intro i h1 h2
    have := h i h1
    simpa [byt, List.getD, h1, h2] using this
  · rintro rfl; intro _ _; rfl

set_option maxRecDepth 100000 in
theorem same_any (w : World) (va vb : Value) (a b : List Nat) (ha : TextAt w va a) (hb : TextAt w vb b) (h1 : a.length < 4611686018427387904) (h2 : b.length < 4611686018427387904) :
    Calls Try.prog 54 #[va, vb] w fun e w' => e = .returned (.bool (a == b)) ∧ w = w' := by
  have sa := byt_lt ha.small
  have sb := byt_lt hb.small
  obtain ⟨aa, ca, rfl, p1, p2, p3⟩ := ha.ex
  obtain ⟨ab, cb, rfl, q1, q2, q3⟩ := hb.ex
  obtain ⟨n, hn⟩ : ∃ n, n = a.length := ⟨_, rfl⟩
  obtain ⟨m, hm⟩ : ∃ m, m = b.length := ⟨_, rfl⟩
  obtain ⟨R, hR⟩ : ∃ R, R = (a == b) := ⟨_, rfl⟩
  rw [← hR]
  rw [← hn] at h1 p1 p3 ⊢
  rw [← hm] at h2 q1 q3 ⊢
  replace hn := Lib.hid hn
  replace hm := Lib.hid hm
  replace p2 := Lib.hid p2
  replace p3 := Lib.hid p3
  replace q2 := Lib.hid q2
  replace q3 := Lib.hid q3
  replace sa := Lib.hid sa
  replace sb := Lib.hid sb
  replace hR := Lib.hid hR
  replace ha := Lib.hid ha
  replace hb := Lib.hid hb
  by_cases he : n = m
  · subst he
    have d0 : (((n : Int)) != (n : Int)) = false := by simp
    go_enter Try.func54, Try.ntmps54
    go_wp2_with fail
    go_loop [5, 15] (fun v i => ∃ k x : Nat, k ≤ n ∧ x < 256 ∧ i = .int .i64 k ∧ v = .int .u8 x ∧ (x = 0 ↔ ∀ j, j < k → byt a j = byt b j)) (fun _ i => n - (intOf i).toNat)
    case atStart => exact ⟨0, 0, Nat.zero_le _, by decide, rfl, rfl, by simp⟩
    case round =>
      obtain ⟨k, x, hk, hx, rfl, rfl, hiff⟩ := hrel
      by_cases hlt : k < n
      · obtain ⟨_, ob, oo, rfl, ca1⟩ := p3.out k hlt
        obtain ⟨_, ob', oo', rfl, cb1⟩ := q3.out k hlt
        have l1 := sa.out k
        have l2 := sb.out k
        have nx : (x ||| (byt a k ^^^ byt b k) = 0) ↔ ∀ j, j < k + 1 → byt a j = byt b j := by
          rw [or_zero', xor_zero', hiff]
          constructor
          · rintro ⟨g1, g2⟩ j hj
            by_cases e : j = k
            · rw [e]; exact g2
            · exact g1 j (by omega)
          · intro g
            exact ⟨fun j hj => g j (by omega), g k (by omega)⟩
        generalize byt a k = c at *
        generalize byt b k = d at *
        have x1 := u8_xor_nat c d l1 l2
        have lx : c ^^^ d < 256 := Nat.xor_lt_two_pow (n := 8) l1 l2
        generalize c ^^^ d = z at *
        have x2 := u8_or_nat x z hx lx
        have lo : x ||| z < 256 := Nat.or_lt_two_pow (n := 8) hx lx
        generalize x ||| z = y at *
        replace nx := Lib.hid nx
        replace hiff := Lib.hid hiff
        go_wp2_with fail
        go_round
        case rel => exact ⟨k + 1, y, by omega, lo, by go_num, rfl, nx.out⟩
        case measure => simp [intOf]; omega
      · obtain rfl : k = n := by omega
        have eR : R = decide (x = 0) := by
          rw [hR.out, Bool.eq_iff_iff, beq_iff_eq, decide_eq_true_iff, hiff, ← texts_eq (by rw [← hn.out, ← hm.out]), ← hn.out]
        have ex : (((x : Int)) == 0) = decide (x = 0) := by
          rw [Bool.eq_iff_iff, beq_iff_eq, decide_eq_true_iff]; omega
        rw [← eR] at ex
        replace hiff := Lib.hid hiff
        replace eR := Lib.hid eR
        go_wp2_with fail
        go_ret
        exact ⟨rfl, rfl⟩
  · have d0 : (((n : Int)) != (m : Int)) = true := by simp; omega
    have eR : R = false := by
      rw [hR.out, beq_eq_false_iff_ne]
      intro e
      apply he
      rw [hn.out, hm.out, e]
    subst eR
    go_enter Try.func54, Try.ntmps54
    go_wp2_with fail
    go_ret
    exact ⟨rfl, rfl⟩

set_option maxRecDepth 100000 in
theorem right_any (w : World) (vk vt vm : Value) (key t m : List Nat) (hk : TextAt w vk key) (ht : TextAt w vt t) (hm : TextAt w vm m) (h1 : key.length < 1000000) (h2 : t.length < 10000000) (h3 : m.length < 1000000) :
    Calls Try.prog 28 #[vk, vt, vm] w fun e w' => e = .returned (.bool (macs key t == m)) ∧ Below w.heap.size w w' := by
  have mc := Lib.hid (mac_text w vk vt key t hk ht h1 h2)
  have hi : (Try.prog.info? 27).map (·.size) = some (u8s (macs key t)).size := info_sum _
  replace hi := Lib.hid hi
  replace hm := Lib.hid hm
  go_enter Try.func28, Try.ntmps28
  go_wp2_with fail
  refine mc.out.mono ?_
  rintro e w2 ⟨rfl, B2⟩
  have m2 := hm.out.below B2
  replace B2 := Lib.hid B2
  replace m2 := Lib.hid m2
  go_wp2_with (refine wpList_store_n (by rfl) 27 (.tmp 7) (.tmp 10) rfl (macs key t) rfl rfl hi.out (by rw [len_macs]; rfl) ?_; intro w3 R3 B3)
  refine (same_any w3 _ _ (macs key t) m (R3.out.text (sumOf_lt _) (length_sumOf _)) (m2.out.below B3.out) (by rw [show (macs key t).length = 32 from length_sumOf _]; decide) (by omega)).mono ?_
  rintro e w4 ⟨rfl, rfl⟩
  go_wp2_with fail
  go_ret
  exact ⟨rfl, B2.out.trans (B3.out.mono B2.out.size)⟩

end Go.Proofs.Ytjbmdeppoobccaa
