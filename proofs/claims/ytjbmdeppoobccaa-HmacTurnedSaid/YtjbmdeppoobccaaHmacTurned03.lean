/-
  Layer 3's laws HmacTurned and HmacKeys. Condition: none but the texts' reading.
-/
import Derived.Test.YtjbmdeppoobccaaLaw03
import Derived.Test.YtjbmdeppoobccaaCut
namespace Go.Proofs.Ytjbmdeppoobccaa
open Go.RowKit

theorem turned_ne {A : List Nat} {i c : Nat} (hi : i < A.length) (hc : c ≠ 0) : A ≠ A.set i (byt A i ^^^ c) := by
  intro e
  have h : A[i]? = (A.set i (byt A i ^^^ c))[i]? := by rw [← e]
  rw [List.getElem?_set_self hi, List.getElem?_eq_getElem hi] at h
  have e2 : byt A i = A[i] := by simp [byt, List.getD, hi]
  rw [e2] at h
  have h2 := Option.some.inj h
  have h3 : A[i] ^^^ (A[i] ^^^ c) = A[i] ^^^ A[i] := by rw [← h2]
  rw [← Nat.xor_assoc, Nat.xor_self, Nat.zero_xor] at h3
  exact hc h3

set_option maxRecDepth 100000 in
set_option maxHeartbeats 4000000 in
theorem turned_any (w : World) (key b : List Nat) (nk nb : Nat) (ak ab : Option Addr) (ck cb : Nat) (at_ : Int) (by_ : Nat) (hk : TextAt w (.slice ak nk ck) key) (hb : TextAt w (.slice ab nb cb) b) (ek : key.length = nk) (eb : b.length = nb) (hn : nk < 9223372036854775808) (hm : nb < 9223372036854775808) (hby : by_ < 256) :
    Calls Try.prog 9 #[.slice ak nk ck, .slice ab nb cb, .int .i64 at_, .int .u8 (by_ : Int)] w fun e w' => e = .returned (.bool true) ∧ Below w.heap.size w w' := by
  replace hk := Lib.hid hk
  replace hb := Lib.hid hb
  replace ek := Lib.hid ek
  replace eb := Lib.hid eb
  have d1 : (300 : Int) < (nk : Int) ∨ ¬ (300 : Int) < (nk : Int) := by omega
  have d2 : (1000 : Int) < (nb : Int) ∨ ¬ (1000 : Int) < (nb : Int) := by omega
  have d3 : at_ < 0 ∨ ¬ at_ < 0 := by omega
  have d4 : 31 < at_ ∨ ¬ 31 < at_ := by omega
  have d5 : ((by_ : Int) == 0) = true ∨ ((by_ : Int) == 0) = false := by cases ((by_ : Int) == 0) <;> simp
  rcases d1 with d1 | d1
  ·
    go_enter Try.func9, Try.ntmps9
    go_wp2_with fail
    refine (alive03 _).mono ?_
    rintro e w1 ⟨rfl, B1⟩
    go_wp2_with fail
    go_ret
    exact ⟨rfl, B1⟩
  rcases d2 with d2 | d2
  ·
    go_enter Try.func9, Try.ntmps9
    go_wp2_with fail
    refine (alive03 _).mono ?_
    rintro e w1 ⟨rfl, B1⟩
    go_wp2_with fail
    go_ret
    exact ⟨rfl, B1⟩
  rcases d3 with d3 | d3
  ·
    go_enter Try.func9, Try.ntmps9
    go_wp2_with fail
    refine (alive03 _).mono ?_
    rintro e w1 ⟨rfl, B1⟩
    go_wp2_with fail
    go_ret
    exact ⟨rfl, B1⟩
  rcases d4 with d4 | d4
  ·
    go_enter Try.func9, Try.ntmps9
    go_wp2_with fail
    refine (alive03 _).mono ?_
    rintro e w1 ⟨rfl, B1⟩
    go_wp2_with fail
    go_ret
    exact ⟨rfl, B1⟩
  rcases d5 with d5 | d5
  ·
    go_enter Try.func9, Try.ntmps9
    go_wp2_with fail
    refine (alive03 _).mono ?_
    rintro e w1 ⟨rfl, B1⟩
    go_wp2_with fail
    go_ret
    exact ⟨rfl, B1⟩
  have hb0 : by_ ≠ 0 := by
    intro e; subst e; simp at d5
  obtain ⟨i, rfl⟩ : ∃ i : Nat, at_ = i := ⟨at_.toNat, by omega⟩
  have hi : i < 32 := by omega
  have mc := Lib.hid (fun x h1 h2 => mac_text x (.slice ak nk ck) (.slice ab nb cb) key b h1 h2 (by rw [ek.out]; omega) (by rw [eb.out]; omega))
  have rg := Lib.hid (fun x vm m h1 h2 h3 h4 => right_any x (.slice ak nk ck) (.slice ab nb cb) vm key b m h1 h2 h3 (by rw [ek.out]; omega) (by rw [eb.out]; omega) h4)
  have iA := info_sum (padBy 92 (hkey key) ++ sumOf (padBy 54 (hkey key) ++ b))
  rw [show sumOf (padBy 92 (hkey key) ++ sumOf (padBy 54 (hkey key) ++ b)) = macs key b from rfl] at iA
  have lA := macs_length key b
  have sA := macs_small key b
  generalize macs key b = A at *
  have lA' : (u8s A).size = 32 := by simp [u8s, lA]
  replace lA := Lib.hid lA
  replace sA := Lib.hid sA
  replace hb0 := Lib.hid hb0
  go_enter Try.func9, Try.ntmps9
  go_wp2_with fail
  refine (mc.out w hk.out hb.out).mono ?_
  rintro e w1 ⟨rfl, B1⟩
  have s1 := B1.size
  replace B1 := Lib.hid B1
  clear mc
  have hne := turned_ne (A := A) (i := i) (by rw [lA.out]; exact hi) hb0.out
  have hc8 : byt A i < 256 := byt_lt sA.out i
  have hxor := u8_xor_nat (byt A i) by_ hc8 hby
  have hx8 : byt A i ^^^ by_ < 256 := Nat.xor_lt_two_pow (n := 8) hc8 hby
  obtain ⟨c, hc⟩ : ∃ c, c = byt A i := ⟨_, rfl⟩
  rw [← hc] at hne hxor hx8 hc8
  obtain ⟨d, hd⟩ : ∃ d, d = c ^^^ by_ := ⟨_, rfl⟩
  rw [← hd] at hne hxor hx8
  replace hne := Lib.hid hne
  replace hc := Lib.hid hc
  replace hd := Lib.hid hd
  go_wp2_with (first
    | (refine wpList_store_n (by rfl) 27 (.tmp 9) (.tmp 34) rfl A rfl rfl iA (by rw [lA']; rfl) ?_; intro w2 R2 B2
       have b2 : Below w.heap.size w w2 := B1.out.trans (B2.out.mono s1)
       have s2 := b2.size
       have lr2 := R2.out.lt
       replace b2 := Lib.hid b2)
    | (refine wpList_load_rowg (by rfl) 27 (.tmp 9) rfl w1.heap.size rfl 27 (u8s A) (0, 0) _ R2.out Try.underlying27 rfl iA ?_)
    | (refine wpList_store_n (by rfl) 27 (.tmp 10) (.tmp 35) rfl A rfl rfl iA (by rw [lA']; rfl) ?_; intro w3 R3 B3
       have cy : w3.cell? ⟨w2.heap.size, i, none⟩ = some (.int .u8 (c : Int)) := by rw [hc.out]; exact R3.out.byt (by rw [lA.out]; exact hi)
       have fy := R3.out.frozen i
       have ly3 := R3.out.lt))
  refine name_calls ?_; intro w4 hw4
  have Y4 : RowB w4 w2.heap.size 27 (A.set i d) := by rw [hw4.out]; exact R3.out.set i d
  have X4 : RowB w4 w1.heap.size 27 A := by
    rw [hw4.out]
    exact RowB.other (R2.out.other (B3.out.block _ lr2)) (heap_setCell_other _ _ _ _ (show w1.heap.size ≠ w2.heap.size by omega))
  have b4 : Below w.heap.size w w4 := by
    rw [hw4.out]
    exact (b2.out.trans (B3.out.mono s2)).setCell (by show w.heap.size ≤ w2.heap.size; omega) _
  have s4 := b4.size
  have sY : ∀ x ∈ A.set i d, x < 256 := fun x hx => by
    rcases List.mem_or_eq_of_mem_set hx with h | h
    · exact sA.out x h
    · rw [h]; exact hx8
  replace Y4 := Lib.hid Y4
  replace X4 := Lib.hid X4
  replace b4 := Lib.hid b4
  replace sY := Lib.hid sY
  clear hw4 cy fy R2 R3 B2 B3
  refine (alive03 _).mono ?_
  rintro e w5 ⟨rfl, B5⟩
  have X5 : RowB w5 w1.heap.size 27 A := X4.out.other (B5.block _ X4.out.lt)
  have Y5 : RowB w5 w2.heap.size 27 (A.set i d) := Y4.out.other (B5.block _ Y4.out.lt)
  have b5 : Below w.heap.size w w5 := b4.out.trans (B5.mono s4)
  have s5 := b5.size
  have r5 := rg.out w5 (.slice (some ⟨w1.heap.size, 0, none⟩) 32 32) A (hk.out.below b5) (hb.out.below b5) (X5.text sA.out lA.out) (by rw [lA.out]; decide)
  rw [beq_self_eq_true] at r5
  replace X5 := Lib.hid X5
  replace Y5 := Lib.hid Y5
  replace b5 := Lib.hid b5
  replace B5 := Lib.hid B5
  replace r5 := Lib.hid r5
  go_wp2_with fail
  refine r5.out.mono ?_
  rintro e w6 ⟨rfl, B6⟩
  have X6 : RowB w6 w1.heap.size 27 A := X5.out.other (B6.block _ X5.out.lt)
  have Y6 : RowB w6 w2.heap.size 27 (A.set i d) := Y5.out.other (B6.block _ Y5.out.lt)
  have b6 : Below w.heap.size w w6 := b5.out.trans (B6.mono s5)
  have s6 := b6.size
  have r6 := rg.out w6 (.slice (some ⟨w2.heap.size, 0, none⟩) 32 32) (A.set i d) (hk.out.below b6) (hb.out.below b6) (Y6.text sY.out (by rw [List.length_set, lA.out])) (by rw [List.length_set, lA.out]; decide)
  rw [beq_eq_false_iff_ne.2 hne.out] at r6
  have hsl := run_arr_h (P := Try.prog) (T := 27) (e := 5) Try.underlying27 size8 w1.heap.size i (by omega) (i : Int) rfl (by decide)
  replace X6 := Lib.hid X6
  replace Y6 := Lib.hid Y6
  replace b6 := Lib.hid b6
  replace B6 := Lib.hid B6
  replace r6 := Lib.hid r6
  go_wp2_with fail
  refine r6.out.mono ?_
  rintro e w7 ⟨rfl, B7⟩
  have X7 : RowB w7 w1.heap.size 27 A := X6.out.other (B7.block _ X6.out.lt)
  have b7 : Below w.heap.size w w7 := b6.out.trans (B7.mono s6)
  have s7 := b7.size
  have tx := X7.text sA.out lA.out
  have r7 := rg.out w7 (.slice (some ⟨w1.heap.size, 0, none⟩) i 32) (A.take i) (hk.out.below b7) (hb.out.below b7) (by
    rw [← lA.out] at tx
    have h := tx.cutHi (hi := i) (by rw [lA.out]; omega)
    rw [lA.out] at h
    exact h) (by rw [List.length_take, lA.out]; omega)
  have hne2 : A ≠ A.take i := fun e => by
    have h := congrArg List.length e
    rw [List.length_take, lA.out] at h
    omega
  rw [beq_eq_false_iff_ne.2 hne2] at r7
  replace X7 := Lib.hid X7
  replace b7 := Lib.hid b7
  replace B7 := Lib.hid B7
  replace r7 := Lib.hid r7
  replace tx := Lib.hid tx
  replace hne2 := Lib.hid hne2
  go_wp2_with fail
  refine r7.out.mono ?_
  rintro e w8 ⟨rfl, B8⟩
  have b8 : Below w.heap.size w w8 := b7.out.trans (B8.mono s7)
  replace b8 := Lib.hid b8
  replace B8 := Lib.hid B8
  go_wp2_with fail
  go_ret
  exact ⟨rfl, b8.out⟩

end Go.Proofs.Ytjbmdeppoobccaa
