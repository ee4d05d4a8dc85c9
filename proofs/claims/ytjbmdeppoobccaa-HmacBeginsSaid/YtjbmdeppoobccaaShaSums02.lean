/-
  Layer 2's law ShaSums: every text has its sum. Condition: none but the texts' reading.
-/
import Derived.Test.YtjbmdeppoobccaaLaw02
import Derived.Deep.RegionHeldLaw
namespace Go.Proofs.Ytjbmdeppoobccaa
open Go.RowKit

theorem great_small {ls : List (List Nat)} (h : (decide (12 < ls.length) || ls.any fun t => decide (400 < t.length)) = false) : ls.length ≤ 12 ∧ (∀ t ∈ ls, t.length ≤ 400) ∧ ls.flatten.length ≤ 4800 := by
  simp only [Bool.or_eq_false_iff, decide_eq_false_iff_not, List.any_eq_false, decide_eq_true_eq] at h
  obtain ⟨h1, h2⟩ := h
  have h3 : ∀ l : List (List Nat), (∀ t ∈ l, t.length ≤ 400) → l.flatten.length ≤ 400 * l.length := fun l => by
    induction l with
    | nil => intro _; simp
    | cons a l ih =>
      intro hl
      have := hl a (by simp)
      have := ih fun t ht => hl t (by simp [ht])
      simp only [List.flatten_cons, List.length_append, List.length_cons]; omega
  have h4 : ∀ t ∈ ls, t.length ≤ 400 := fun t ht => by have := h2 t ht; omega
  have := h3 ls h4
  exact ⟨by omega, h4, by omega⟩

/-- A row of bytes, cut whole, is a text. -/
theorem RowB.text {w : World} {b ty : Nat} {t : List Nat} (h : RowB w b ty t) (hs : ∀ x ∈ t, x < 256) {n : Nat} (hn : t.length = n) : TextAt w (.slice (some ⟨b, 0, none⟩) n n) t :=
  ⟨_, n, by rw [hn], by omega, fun e => by simp at e, fun i hi => ⟨byt_lt hs i, b, 0, rfl, by rw [Nat.zero_add]; exact h.byt hi⟩⟩
theorem sum_text {w : World} {b ty : Nat} (t : List Nat) (h : RowB w b ty (sumOf t)) : (convert 22 9 (.slice (some ⟨b, 0, none⟩) 32 32)).run Try.prog w = .ok (.string (strOf (sumOf t))) w :=
  run_str (h.text (sumOf_lt t) (length_sumOf t))

theorem sumf_text (w : World) (v : Value) (t : List Nat) (h : TextAt w v t) (hl : t.length < 1000000000) :
    Calls Try.prog 18 #[v] w fun e w' => e = .returned (.agg (u8s (sumOf t))) ∧ Below w.heap.size w w' := by
  obtain ⟨ao, cap, rfl, h1, h2, h3⟩ := h.ex
  exact sumf_any w ao cap t h1 h3 h2 hl
theorem flat_lt {w : World} {ao : Option Addr} {ls : List (List Nat)} (h : TextsAt w ao ls) : ∀ x ∈ ls.flatten, x < 256 := by
  intro x hx
  obtain ⟨t, ht, hxt⟩ := List.mem_flatten.1 hx
  obtain ⟨i, hi, rfl⟩ := List.mem_iff_getElem.1 ht
  obtain ⟨ob, oo, _, ai, ci, _, _, hb, _⟩ := h i hi
  have e : ls.getD i [] = ls[i] := by simp [List.getD, hi]
  rw [e] at hb
  obtain ⟨j, hj, rfl⟩ := List.mem_iff_getElem.1 hxt
  have := (hb j hj).1
  simpa [byt, List.getD, hj] using this
theorem info_sum (t : List Nat) : (Try.prog.info? 27).map (·.size) = some (u8s (sumOf t)).size := size_s t
/-- Two sums in their blocks. -/
def Sums2 (w : World) (x y : Nat) (s t : List Nat) : Prop := RowB w x 27 (sumOf s) ∧ RowB w y 27 (sumOf t)
theorem Sums2.below {w w' : World} {x y : Nat} {s t : List Nat} (h : Sums2 w x y s t) (hB : Below w.heap.size w w') : Sums2 w' x y s t :=
  ⟨h.1.other (hB.block _ h.1.lt), h.2.other (hB.block _ h.2.lt)⟩
/-- .. and what they are as strings. -/
def Strs2 (x y : Nat) (s t : List Nat) (w : World) : Prop :=
  (convert 22 9 (.slice (some ⟨x, 0, none⟩) 32 32)).run Try.prog w = .ok (.string (strOf (sumOf s))) w ∧ (convert 22 9 (.slice (some ⟨y, 0, none⟩) 32 32)).run Try.prog w = .ok (.string (strOf (sumOf t))) w
theorem Sums2.strs {w : World} {x y : Nat} {s t : List Nat} (h : Sums2 w x y s t) : Strs2 x y s t w := ⟨sum_text s h.1, sum_text t h.2⟩

set_option maxRecDepth 100000 in
set_option maxHeartbeats 1000000 in
theorem shaSums_any (w : World) (ab : Option Addr) (cb : Nat) (t : List Nat) (hb : TextAt w (.slice ab t.length cb) t) (ao : Option Addr) (cap : Nat) (ls : List (List Nat)) (hl : TextsAt w ao ls) (ht : t.length < 9223372036854775808) (hls : ls.length < 9223372036854775808) :
    Calls Try.prog 3 #[.slice ab t.length cb, .slice ao ls.length cap] w fun e w' => e = .returned (.bool true) ∧ Below w.heap.size w w' := by
  have al := Lib.hid (alive02 w)
  have gr := Lib.hid (great_any w ao cap ls hl hls)
  have T1 := Lib.hid hb
  obtain ⟨G, hG⟩ : ∃ G, G = (decide (12 < ls.length) || ls.any fun t => decide (400 < t.length)) := ⟨_, rfl⟩
  rw [← hG] at gr
  generalize hn : t.length = n at *
  obtain ⟨m, hm⟩ : ∃ m, m = ls.length := ⟨_, rfl⟩
  rw [← hm] at gr hls ⊢
  have d6 : (600 : Int) < (n : Int) ∨ ¬ (600 : Int) < (n : Int) := by omega
  replace hn := Lib.hid hn
  replace hm := Lib.hid hm
  replace hb := Lib.hid hb
  replace hl := Lib.hid hl
  replace hG := Lib.hid hG
  rcases d6 with d6 | d6
  · go_enter Try.func3, Try.ntmps3
    go_wp2_with fail
    refine al.out.mono ?_
    rintro e w1 ⟨rfl, B1⟩
    go_wp2_with fail
    go_ret
    exact ⟨rfl, B1⟩
  · go_enter Try.func3, Try.ntmps3
    go_wp2_with fail
    refine gr.out.mono ?_
    rintro e w1 ⟨rfl, rfl⟩
    cases G with
    | true =>
      go_wp2_with fail
      refine al.out.mono ?_
      rintro e w1 ⟨rfl, B1⟩
      go_wp2_with fail
      go_ret
      exact ⟨rfl, B1⟩
    | false =>
      obtain ⟨s12, s400, s48⟩ := great_small (hG.out).symm
      rw [← hm.out] at s12
      have t6 : t.length ≤ 600 := by rw [hn.out]; omega
      have m12 : ls.length ≤ 12 := by rw [← hm.out]; omega
      have bo := Lib.hid (fun w1 (h : TextsAt w1 ao ls) => both_any w1 ao cap ls h (by omega) (by omega))
      have jo := Lib.hid (fun w1 (h : TextsAt w1 ao ls) => ref_join w1 ao cap ls h (by omega) (by omega))
      rw [← hm.out] at bo jo
      generalize hT2 : ls.flatten = T2 at *
      replace s400 := Lib.hid s400
      replace hT2 := Lib.hid hT2
      clear gr hG
      go_wp2_with fail
      refine (sumf_text w _ t hb.out (by omega)).mono ?_
      rintro e w2 ⟨rfl, B2⟩
      replace B2 := Lib.hid B2
      go_wp2_with fail
      refine (bo.out w2 (hl.out.below B2.out)).mono ?_
      rintro e w3 ⟨rfl, B3⟩
      have h3 : Below w.heap.size w w3 := B2.out.trans (B3.mono B2.out.size)
      have hs3 := h3.size
      have i1 := info_sum t
      have i2 := info_sum T2
      have o1 := one_s t
      have o2 := one_s T2
      have l1 : (u8s (sumOf t)).size = 32 := size_sumOf _
      have l2 : (u8s (sumOf T2)).size = 32 := size_sumOf _
      replace h3 := Lib.hid h3
      clear B2 B3
      go_wp2_with (first
        | (refine wpList_store_row rfl 27 (.tmp 5) (.tmp 16) rfl w3.heap.size (u8s (sumOf t)) rfl rfl 27 (u8s (List.replicate 32 0)) (alloc_row (heap_alloc_new _ _)) i1 (by rw [l1]; rfl) o1 ?_
           refine name_world ?_; intro w4 hw4)
        | (refine wpList_store_row rfl 27 (.tmp 6) (.tmp 18) rfl (w3.heap.size + 1) (u8s (sumOf T2)) rfl rfl 27 (u8s (List.replicate 32 0)) (by rw [hw4.out, setRow_other _ _ _ _ (by omega)]; exact alloc_at (by simp)) i2 (by rw [l2]; rfl) o2 ?_
           refine name_world ?_; intro w5 hw5))
      have S5 : Sums2 w5 w3.heap.size (w3.heap.size + 1) t T2 := by
        constructor
        · rw [hw5.out]; unfold RowB; rw [setRow_other _ _ _ _ (by omega), hw4.out]; exact setRow_heap _ _ _ _ _ _ (alloc_row (heap_alloc_new _ _))
        · rw [hw5.out]; refine setRow_heap _ _ (u8s (List.replicate 32 0)) _ _ _ ?_
          rw [hw4.out, setRow_other _ _ _ _ (by omega)]; exact alloc_at (by simp)
      have h5 : Below w.heap.size w w5 := by
        rw [hw5.out, hw4.out]
        exact below_setRow (below_setRow ((h3.out.alloc hs3 _).alloc (by simp; omega) _) (by omega) _) (by omega) _
      clear hw4 hw5 h3 i1 i2 o1 o2 l1 l2 al
      have hs5 := h5.size
      have S0 : Strs2 w3.heap.size (w3.heap.size + 1) t T2 w5.drew := Sums2.strs ⟨S5.1, S5.2⟩
      have X5 : Sums2 w5.drew w3.heap.size (w3.heap.size + 1) t T2 := S5
      have h5' : Below w.heap.size w w5.drew := h5.drew
      have l4 := (hl.out.below h5')
      have b4 := (hb.out.below h5')
      replace S5 := Lib.hid S5
      replace h5 := Lib.hid h5
      replace S0 := Lib.hid S0
      replace X5 := Lib.hid X5
      replace h5' := Lib.hid h5'
      replace l4 := Lib.hid l4
      replace b4 := Lib.hid b4
      clear m12
      go_region_held_law (fun w' => (convert 22 9 (.slice (some ⟨w3.heap.size, 0, none⟩) 32 32)).run Try.prog w' = .ok (.string (strOf (sumOf t))) w' ∧ (convert 22 9 (.slice (some ⟨w3.heap.size + 1, 0, none⟩) 32 32)).run Try.prog w' = .ok (.string (strOf (sumOf T2))) w')
        (first | exact S0.out | exact S6.out | exact S7.out | exact S8.out | exact S9.out)
        (first
        | (go_at_call 17; refine (alive02 _).mono ?_; rintro e w6 ⟨rfl, B6⟩
           have X6 := X5.out.below B6
           have S6 := Lib.hid X6.strs
           have h6 : Below w.heap.size w w6 := h5'.out.trans (B6.mono h5'.out.size)
           replace B6 := Lib.hid B6
           replace X6 := Lib.hid X6
           replace h6 := Lib.hid h6)
        | (go_at_call_of 20 (Value.slice ab n cb); refine (ref_sum _ _ t (hb.out.below h6.out) (by omega)).mono ?_; rintro e w7 ⟨v7, rfl, O7, B7⟩
           have X7 := X6.out.below B7
           have S7 := Lib.hid X7.strs
           have h7 : Below w.heap.size w w7 := h6.out.trans (B7.mono h6.out.size)
           have c7 := run_str (O7.text (sumOf_lt t))
           replace B7 := Lib.hid B7
           replace X7 := Lib.hid X7
           replace h7 := Lib.hid h7
           replace O7 := Lib.hid O7)
        | (go_at_call 21; refine (jo.out _ (hl.out.below h7.out)).mono ?_; rintro e w8 ⟨v8, rfl, O8, B8⟩
           have X8 := X7.out.below B8
           have S8 := Lib.hid X8.strs
           have h8 : Below w.heap.size w w8 := h7.out.trans (B8.mono h7.out.size)
           have hT2s : ∀ x ∈ T2, x < 256 := by rw [← hT2.out]; exact flat_lt (hl.out)
           have t8 := O8.text hT2s
           replace B8 := Lib.hid B8
           replace X8 := Lib.hid X8
           replace h8 := Lib.hid h8
           replace O8 := Lib.hid O8
           replace hT2s := Lib.hid hT2s
           replace t8 := Lib.hid t8)
        | (go_at_call_of 20 v8; refine (ref_sum _ _ T2 t8.out (by omega)).mono ?_; rintro e w9 ⟨v9, rfl, O9, B9⟩
           have X9 := X8.out.below B9
           have S9 := Lib.hid X9.strs
           have h9 : Below w.heap.size w w9 := h8.out.trans (B9.mono h8.out.size)
           have c9 := run_str (O9.text (sumOf_lt T2))
           replace B9 := Lib.hid B9
           replace X9 := Lib.hid X9
           replace h9 := Lib.hid h9
           replace O9 := Lib.hid O9))
      go_wp2_with fail
      go_ret
      exact ⟨rfl, h9.out⟩

end Go.Proofs.Ytjbmdeppoobccaa
