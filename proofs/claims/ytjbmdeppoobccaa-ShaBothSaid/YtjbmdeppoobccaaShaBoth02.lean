/-
  Layer 2's law ShaBoth. Condition: none but the texts' reading.
-/
import Derived.Test.YtjbmdeppoobccaaShaSums02
import Derived.Test.YtjbmdeppoobccaaText
namespace Go.Proofs.Ytjbmdeppoobccaa
open Go.RowKit

set_option maxRecDepth 100000 in
theorem both_great (w : World) (va vb vc : Value) (na nb nc : Nat) (aa ab ac : Option Addr) (ca cb cc : Nat) (ea : va = .slice aa na ca) (eb : vb = .slice ab nb cb) (ec : vc = .slice ac nc cc)
    (h : 1000 < na ∨ 1000 < nb ∨ 1000 < nc) : Calls Try.prog 6 #[va, vb, vc] w fun e w' => e = .returned (.bool true) ∧ Below w.heap.size w w' := by
  subst ea eb ec
  have al := Lib.hid (alive02 w)
  by_cases h1 : 1000 < na
  · have d1 : (1000 : Int) < (na : Int) := by omega
    clear h h1
    go_enter Try.func6, Try.ntmps6
    go_wp2_with fail
    refine al.out.mono ?_
    rintro e w1 ⟨rfl, B1⟩
    go_wp2_with fail
    go_ret
    exact ⟨rfl, B1⟩
  · have d1 : ¬ (1000 : Int) < (na : Int) := by omega
    by_cases h2 : 1000 < nb
    · have d2 : (1000 : Int) < (nb : Int) := by omega
      clear h h1 h2
      go_enter Try.func6, Try.ntmps6
      go_wp2_with fail
      refine al.out.mono ?_
      rintro e w1 ⟨rfl, B1⟩
      go_wp2_with fail
      go_ret
      exact ⟨rfl, B1⟩
    · have d2 : ¬ (1000 : Int) < (nb : Int) := by omega
      have d3 : (1000 : Int) < (nc : Int) := by omega
      clear h h1 h2
      go_enter Try.func6, Try.ntmps6
      go_wp2_with fail
      refine al.out.mono ?_
      rintro e w1 ⟨rfl, B1⟩
      go_wp2_with fail
      go_ret
      exact ⟨rfl, B1⟩

set_option maxRecDepth 100000 in
set_option maxHeartbeats 1000000 in
theorem both_small (w : World) (ta tb tc : List Nat) (na nb nc : Nat) (aa ab ac : Option Addr) (ca cb cc : Nat) (ha : TextAt w (.slice aa na ca) ta) (hb : TextAt w (.slice ab nb cb) tb) (hc : TextAt w (.slice ac nc cc) tc)
    (ea : ta.length = na) (eb : tb.length = nb) (ec : tc.length = nc) (h1 : na ≤ 1000) (h2 : nb ≤ 1000) (h3 : nc ≤ 1000) :
    Calls Try.prog 6 #[.slice aa na ca, .slice ab nb cb, .slice ac nc cc] w fun e w' => e = .returned (.bool true) ∧ Below w.heap.size w w' := by
  have d1 : ¬ (1000 : Int) < (na : Int) := by omega
  have d2 : ¬ (1000 : Int) < (nb : Int) := by omega
  have d3 : ¬ (1000 : Int) < (nc : Int) := by omega
  have q := fun (t : List Nat) (x : World) => run_equal_arr (P := Try.prog) Try.underlying27 Try.underlying5 (by kernel_rfl) (sumOf_lt t) (sumOf_lt t) (length_sumOf _) (length_sumOf _) x
  simp only [beq_self_eq_true] at q
  replace ha := Lib.hid ha
  replace hb := Lib.hid hb
  replace hc := Lib.hid hc
  replace ea := Lib.hid ea
  replace eb := Lib.hid eb
  replace ec := Lib.hid ec
  replace h1 := Lib.hid h1
  replace h2 := Lib.hid h2
  replace h3 := Lib.hid h3
  go_enter Try.func6, Try.ntmps6
  go_wp2_with (first
    | (at_builtin; refine wpList_append_s (by rfl) (.tmp 22) (.tmp 23) rfl w.heap.size w _ [] rfl (Own.empty _ (Nat.le_refl _)) ((Below.refl _ _).alloc (Nat.le_refl _) _) (by simp) _ ta rfl (ha.out.alloc _) (by have := ea.out; have := h1.out; simp; omega) ?_; intro v1 w1 O1 B1)
    | (at_builtin; refine wpList_append_s (by rfl) (.tmp 24) (.tmp 25) rfl w.heap.size w _ _ rfl O1.out B1.out B1.out.size _ tb rfl (hb.out.below B1.out) (by have := ea.out; have := h1.out; have := eb.out; have := h2.out; simp; omega) ?_; intro v2 w2 O2 B2)
    | (at_builtin; refine wpList_append_s (by rfl) (.tmp 26) (.tmp 27) rfl w.heap.size w _ _ rfl O2.out B2.out B2.out.size _ tc rfl (hc.out.below B2.out) (by have := ea.out; have := h1.out; have := eb.out; have := h2.out; have := ec.out; have := h3.out; simp; omega) ?_; intro v3 w3 O3 B3))
  obtain ⟨T, hT⟩ : ∃ T, T = ta ++ tb ++ tc := ⟨_, rfl⟩
  have O3' : Own w3 w.heap.size 5 v3 (u8l T) := by rw [hT]; have := O3.out; simpa using this
  have sm : ∀ x ∈ T, x < 256 := by
    rw [hT]
    intro x hx
    rcases List.mem_append.1 hx with h | h
    · rcases List.mem_append.1 h with h | h
      · exact ha.out.small x h
      · exact hb.out.small x h
    · exact hc.out.small x h
  have all3 := O3'.text sm
  have hs3 := B3.out.size
  have len3 : T.length < 1000000000 := by
    have := ea.out; have := eb.out; have := ec.out; have := h1.out; have := h2.out; have := h3.out
    rw [hT]; simp; omega
  have len1 : ta.length + (tb.length + tc.length) < 1000000000 := by
    have := ea.out; have := eb.out; have := ec.out; have := h1.out; have := h2.out; have := h3.out
    omega
  have q1 := q T
  have q2 := q []
  replace O3' := Lib.hid O3'
  replace sm := Lib.hid sm
  replace all3 := Lib.hid all3
  replace hT := Lib.hid hT
  replace q := Lib.hid q
  clear O1 O2 O3 B1 B2
  refine (alive02 _).mono ?_
  rintro e w4 ⟨rfl, C4⟩
  have h4 : Below w.heap.size w w4 := B3.out.trans (C4.mono hs3)
  have a4 := all3.out.below C4
  have hs4 := h4.size
  replace C4 := Lib.hid C4
  replace h4 := Lib.hid h4
  replace a4 := Lib.hid a4
  go_wp2_with fail
  refine (both_any _ _ _ [ta, tb, tc] (texts_of_row (vs := [.slice aa na ca, .slice ab nb cb, .slice ac nc cc]) (heap_alloc_new _ _) rfl ?_) (by simp; omega) (by simp)).mono ?_
  · intro i v t hv ht
    match i with
    | 0 => cases hv; cases ht; exact (ha.out.below h4.out).alloc _
    | 1 => cases hv; cases ht; exact (hb.out.below h4.out).alloc _
    | 2 => cases hv; cases ht; exact (hc.out.below h4.out).alloc _
  rintro e w5 ⟨rfl, C5⟩
  rw [show [ta, tb, tc].flatten = T by rw [hT.out]; simp]
  have h5 : Below w.heap.size w w5 := (h4.out.alloc hs4 _).trans (C5.mono (by simp; omega))
  have a5 := (a4.out.alloc (.cells #[.slice aa na ca, .slice ab nb cb, .slice ac nc cc] 22)).below C5
  have hs5 := h5.size
  replace C5 := Lib.hid C5
  replace h5 := Lib.hid h5
  replace a5 := Lib.hid a5
  go_wp2_with fail
  refine (sumf_text _ v3 _ a5.out len3).mono ?_
  rintro e w6 ⟨rfl, C6⟩
  have h6 : Below w.heap.size w w6 := h5.out.trans (C6.mono hs5)
  have a6 := a5.out.below C6
  have hs6 := h6.size
  replace C6 := Lib.hid C6
  replace h6 := Lib.hid h6
  replace a6 := Lib.hid a6
  go_wp2_with (first
    | (at_builtin; refine wpList_append_s (by rfl) (.tmp 42) (.tmp 43) rfl w6.heap.size w6 (.slice (some ⟨w6.heap.size, 0, none⟩) 0 0) [] rfl (Own.empty _ (Nat.le_refl _)) ((Below.refl _ _).alloc (Nat.le_refl _) _) (by simp) (.slice ab nb cb) tb rfl ((hb.out.below h6.out).alloc _) (by simp; omega) ?_; intro v7 w7 O7 B7)
    | (at_builtin; refine wpList_append_s (by rfl) (.tmp 44) (.tmp 45) rfl w6.heap.size w6 v7 _ rfl O7.out B7.out B7.out.size (.slice ac nc cc) tc rfl ((hc.out.below h6.out).below B7.out) (by simp; omega) ?_; intro v8 w8 O8 B8
       have O8' : Own w8 w6.heap.size 5 v8 (u8l (tb ++ tc)) := by have := O8.out; simpa using this
       have t8 : TextAt w8 v8 (tb ++ tc) := O8'.text (fun x hx => by
         rcases List.mem_append.1 hx with h | h
         · exact hb.out.small x h
         · exact hc.out.small x h)
       obtain ⟨x8, y8, e8, _, _, _⟩ := t8.ex
       obtain ⟨n8, hn8⟩ : ∃ n8, n8 = (tb ++ tc).length := ⟨_, rfl⟩
       rw [← hn8] at e8
       subst e8
       replace O8' := Lib.hid O8'
       replace t8 := Lib.hid t8
       replace hn8 := Lib.hid hn8))
  replace t8 := t8.out
  have h8 : Below w.heap.size w w8 := h6.out.trans (B8.out.mono hs6)
  have hs8 := h8.size
  have a8 := a6.out.below B8.out
  replace h8 := Lib.hid h8
  replace t8 := Lib.hid t8
  replace a8 := Lib.hid a8
  clear O7 O8 O8' B7 B8
  refine (both_any _ _ _ [ta, [], tb ++ tc] (texts_of_row (vs := [.slice aa na ca, .slice none 0 0, .slice x8 n8 y8]) (heap_alloc_new _ _) rfl ?_) (by simp; omega) (by simp)).mono ?_
  · intro i v t hv ht
    match i with
    | 0 => cases hv; cases ht; exact (ha.out.below h8.out).alloc _
    | 1 => cases hv; cases ht; exact TextAt.nil _
    | 2 => cases hv; cases ht; exact t8.out.alloc _
  rintro e w9 ⟨rfl, C9⟩
  rw [show [ta, [], tb ++ tc].flatten = T by rw [hT.out]; simp]
  have h9 : Below w.heap.size w w9 := (h8.out.alloc hs8 _).trans (C9.mono (by simp; omega))
  have a9 := (a8.out.alloc (.cells #[.slice aa na ca, .slice none 0 0, .slice x8 n8 y8] 22)).below C9
  have hs9 := h9.size
  replace C9 := Lib.hid C9
  replace h9 := Lib.hid h9
  replace a9 := Lib.hid a9
  go_wp2_with fail
  refine (sumf_text _ v3 _ a9.out len3).mono ?_
  rintro e w10 ⟨rfl, C10⟩
  have h10 : Below w.heap.size w w10 := h9.out.trans (C10.mono hs9)
  have hs10 := h10.size
  replace C10 := Lib.hid C10
  replace h10 := Lib.hid h10
  go_wp2_with fail
  refine (both_any w10 none 0 [] (fun i hi => by simp at hi) (by simp) (by simp)).mono ?_
  rintro e w11 ⟨rfl, C11⟩
  rw [show ([] : List (List Nat)).flatten = [] from rfl]
  have h11 : Below w.heap.size w w11 := h10.out.trans (C11.mono hs10)
  have hs11 := h11.size
  replace C11 := Lib.hid C11
  replace h11 := Lib.hid h11
  go_wp2_with fail
  refine (sumf_text _ _ _ (TextAt.nil _) (by simp)).mono ?_
  rintro e w12 ⟨rfl, C12⟩
  have h12 : Below w.heap.size w w12 := h11.out.trans (C12.mono hs11)
  replace C12 := Lib.hid C12
  replace h12 := Lib.hid h12
  go_wp2_with fail
  go_ret
  exact ⟨rfl, h12.out⟩

end Go.Proofs.Ytjbmdeppoobccaa
