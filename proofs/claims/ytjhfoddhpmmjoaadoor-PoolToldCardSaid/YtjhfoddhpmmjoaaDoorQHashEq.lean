/-
  bytes.Equal, slices.Clone; hashlog's among: whether a text is one of some. Conditions: texts, not too long.
-/
import Derived.Test.YtjhfoddhpmmjoaaDoorQTx
import Derived.Test.YtjhfoddhpmmjoaaDoorQHeld
import Derived.Laws.AppendOwnNone
namespace Go.Proofs.YtjhfoddhpmmjoaaDoor
set_option maxRecDepth 100000
open Go.RowKit

set_option maxRecDepth 100000 in
theorem equal_any (w : World) (v u : Value) (t s : List Nat) (hv : TextAt w v t) (hu : TextAt w u s) :
    Calls Tryd.prog 87 #[v, u] w fun e w' => e = .returned (.bool (t == s)) ∧ w = w' := by
  have r1 := run_str hv
  have r2 := run_str hu
  have e1 := str_lst hv.small hu.small
  have e2 := str_dec hv.small hu.small
  generalize (t == s) = q at *
  replace hv := Lib.hid hv
  replace hu := Lib.hid hu
  go_enter Tryd.func87, Tryd.ntmps87
  go_wp2_with fail
  go_ret
  exact ⟨rfl, rfl⟩

set_option maxRecDepth 100000 in
theorem among1_any (w : World) (g : Nat) (v u : Value) (t s : List Nat) (hv : TextAt w v t) (hu : TextAt w u s) (hg : w.cell? ⟨g, 0, none⟩ = some u) :
    Calls Tryd.prog 86 #[v, .pointer (some ⟨g, 0, none⟩)] w fun e w' => e = .returned (.bool (t == s)) ∧ w = w' := by
  have ce := Lib.hid (equal_any w v u t s hv hu)
  replace hv := Lib.hid hv
  replace hu := Lib.hid hu
  go_enter Tryd.func86, Tryd.ntmps86
  go_wp2_with fail
  refine ce.out.mono ?_
  rintro e w2 ⟨rfl, rfl⟩
  go_wp2_with fail
  go_ret
  exact ⟨rfl, rfl⟩

/-- Of which some texts are. -/
def memTo (ts : List (List Nat)) (s : List Nat) (k : Nat) : Prop := ∀ i, i < k → (ts.getD i [] == s) = false

/-- A place that is there just if the text is. -/
def IdxSays (s : List Nat) (ts : List (List Nat)) (w : World) (e : Ending) (w' : World) : Prop := (∃ r : Int, e = .returned (.int .i64 r) ∧ decide (r ≥ 0) = decide (s ∈ ts)) ∧ w = w'

set_option maxRecDepth 100000 in
theorem indexf_any (w : World) (g : Nat) (u : Value) (s : List Nat) (hu : TextAt w u s) (hg : w.cell? ⟨g, 0, none⟩ = some u) (ao : Option Addr) (ts : List (List Nat)) (n cap : Nat) (en : ts.length = n) (ht : TextsAt w ao ts) (hn : n < 9223372036854775808) :
    Calls Tryd.prog 91 #[.slice ao n cap, .func (.func 86) #[] #[.pointer (some ⟨g, 0, none⟩)]] w (IdxSays s ts w) := by
  replace hu := Lib.hid hu
  replace en := Lib.hid en
  replace ht := Lib.hid ht
  go_enter Tryd.func91, Tryd.ntmps91
  go_wp2_with fail
  go_loop [8] (fun iv => ∃ k : Nat, k ≤ n ∧ iv = .int .i64 k ∧ memTo ts s k) (fun iv => n - (intOf iv).toNat)
  case atStart => exact ⟨0, Nat.zero_le _, rfl, fun i hi => by omega⟩
  case round =>
    obtain ⟨k, hk, rfl, hm⟩ := hrel
    by_cases hlt : k < n
    · obtain ⟨ob, oo, rfl, ai, ci, h1, h2, h3, h4⟩ := ht.out k (by rw [en.out]; exact hlt)
      have tk : TextAt w (.slice ai (ts.getD k []).length ci) (ts.getD k []) := ⟨ai, ci, rfl, h2, h4, h3⟩
      have d : decide ((k : Int) < (n : Int)) = true := decide_eq_true (by omega)
      have ca := Lib.hid (among1_any w g _ u _ s tk hu.out hg)
      have hmem : ts.getD k [] ∈ ts := by
        have : k < ts.length := by rw [en.out]; exact hlt
        simp [List.getD, this]
      obtain ⟨t, et⟩ : ∃ t, t = ts.getD k [] := ⟨_, rfl⟩
      rw [← et] at h1 h2 h3 tk ca hmem
      replace et := Lib.hid et
      cases hq : (t == s) with
      | true =>
        rw [hq] at ca
        have hs : s ∈ ts := by rw [← eq_of_beq hq]; exact hmem
        replace hm := Lib.hid hm
        replace hmem := Lib.hid hmem
        replace tk := Lib.hid tk
        replace h2 := Lib.hid h2
        replace h3 := Lib.hid h3
        replace h4 := Lib.hid h4
        replace hq := Lib.hid hq
        replace hs := Lib.hid hs
        go_wp2_with fail
        refine ca.out.mono ?_
        rintro e w2 ⟨rfl, rfl⟩
        go_wp2_with fail
        go_ret
        exact ⟨⟨_, rfl, by rw [decide_eq_true hs.out]; exact decide_eq_true (by omega)⟩, rfl⟩
      | false =>
        rw [hq] at ca
        have hm2 : memTo ts s (k + 1) := fun i hi => by
          by_cases hik : i = k
          · rw [hik, ← et.out]; exact hq
          · exact hm i (by omega)
        replace hm := Lib.hid hm
        replace hm2 := Lib.hid hm2
        replace hmem := Lib.hid hmem
        replace tk := Lib.hid tk
        replace h2 := Lib.hid h2
        replace h3 := Lib.hid h3
        replace h4 := Lib.hid h4
        replace hq := Lib.hid hq
        go_wp2_with fail
        refine ca.out.mono ?_
        rintro e w2 ⟨rfl, rfl⟩
        go_wp2_with fail
        go_round
        case rel => exact ⟨k + 1, by omega, by go_num, hm2.out⟩
        case measure => simp [intOf]; omega
    · obtain rfl : k = n := by omega
      have hno : ¬ s ∈ ts := fun hs => by
        obtain ⟨i, hi, e⟩ := List.mem_iff_getElem.1 hs
        have := hm i (by rw [← en.out]; exact hi)
        rw [List.getD_eq_getElem?_getD, List.getElem?_eq_getElem hi] at this
        simp [e] at this
      have d : decide ((k : Int) < (k : Int)) = false := decide_eq_false (by omega)
      replace hm := Lib.hid hm
      replace hno := Lib.hid hno
      go_wp2_with fail
      go_ret
      exact ⟨⟨_, rfl, by rw [decide_eq_false hno.out]; rfl⟩, rfl⟩

set_option maxRecDepth 100000 in
theorem contains_any (w : World) (g : Nat) (u : Value) (s : List Nat) (hu : TextAt w u s) (hg : w.cell? ⟨g, 0, none⟩ = some u) (ao : Option Addr) (ts : List (List Nat)) (n cap : Nat) (en : ts.length = n) (ht : TextsAt w ao ts) (hn : n < 9223372036854775808) :
    Calls Tryd.prog 85 #[.slice ao n cap, .func (.func 86) #[] #[.pointer (some ⟨g, 0, none⟩)]] w fun e w' => e = .returned (.bool (decide (s ∈ ts))) ∧ w = w' := by
  have ci := Lib.hid (indexf_any w g u s hu hg ao ts n cap en ht hn)
  replace hu := Lib.hid hu
  replace en := Lib.hid en
  replace ht := Lib.hid ht
  go_enter Tryd.func85, Tryd.ntmps85
  go_wp2_with fail
  refine ci.out.mono ?_
  rintro e w2 ⟨⟨r, rfl, hr⟩, rfl⟩
  go_wp2_with fail
  go_ret
  exact ⟨rfl, rfl⟩

set_option maxRecDepth 100000 in
theorem among_any (w : World) (u : Value) (s : List Nat) (hu : TextAt w u s) (ao : Option Addr) (ts : List (List Nat)) (n cap : Nat) (en : ts.length = n) (ht : TextsAt w ao ts) (hn : n < 9223372036854775808) :
    Calls Tryd.prog 82 #[.slice ao n cap, u] w fun e w' => e = .returned (.bool (decide (s ∈ ts))) ∧ Below w.heap.size w w' := by
  have B : Below w.heap.size w (w.alloc (.cells #[u] 85)) := (Below.refl _ _).alloc (Nat.le_refl _) _
  have cc := Lib.hid (contains_any (w.alloc (.cells #[u] 85)) w.heap.size u s (hu.below B) (cell_alloc_new' _ _ _) ao ts n cap en (ht.below B) hn)
  obtain ⟨a2, c2, rfl, _⟩ := hu.ex
  replace hu := Lib.hid hu
  replace en := Lib.hid en
  replace ht := Lib.hid ht
  replace B := Lib.hid B
  go_enter Tryd.func82, Tryd.ntmps82
  go_wp2_with fail
  refine cc.out.mono ?_
  rintro e w2 ⟨rfl, rfl⟩
  go_wp2_with fail
  go_ret
  exact ⟨rfl, B.out⟩

set_option maxRecDepth 100000 in
theorem clone_any (w : World) (v : Value) (t : List Nat) (h : TextAt w v t) (hl : t.length ≤ 1000000000) :
    Calls Tryd.prog 72 #[v] w fun e w' => ∃ v', e = .returned v' ∧ Own w' w.heap.size 5 v' (u8l t) ∧ Below w.heap.size w w' := by
  obtain ⟨ao, cap, rfl, h1, h2, h3⟩ := h.ex
  cases ao with
  | none =>
    have hc := h2 rfl
    have h0 : t.length = 0 := by omega
    obtain rfl : t = [] := List.eq_nil_of_length_eq_zero h0
    subst hc
    have q := eql_nil none 0 0
    simp only [Option.isNone_none] at q
    replace h := Lib.hid h
    replace h3 := Lib.hid h3
    go_enter Tryd.func72, Tryd.ntmps72
    go_wp2_with fail
    go_ret
    exact ⟨_, rfl, Own.nil _ _ _, Below.refl _ _⟩
  | some ad =>
    have O := Own.empty (w := w) w.heap.size (Nat.le_refl _)
    have B : Below w.heap.size w (w.alloc (.cells #[] 5)) := (Below.refl _ _).alloc (Nat.le_refl _) _
    have tB := h.below B
    have q := eql_nil (some ad) t.length cap
    simp only [Option.isNone_some] at q
    replace h := Lib.hid h
    replace h3 := Lib.hid h3
    replace B := Lib.hid B
    go_enter Tryd.func72, Tryd.ntmps72
    go_wp2_with (refine wpList_append_s (by rfl) (.tmp 5) (.tmp 6) rfl w.heap.size w (.slice (some ⟨w.heap.size, 0, none⟩) 0 0) [] rfl O B.out (by simp) (.slice (some ad) t.length cap) t rfl tB (by simpa using hl) ?_; intro v1 w1 O1 B1)
    go_ret
    exact ⟨_, rfl, by simpa using O1.out, B1.out⟩
end Go.Proofs.YtjhfoddhpmmjoaaDoor
