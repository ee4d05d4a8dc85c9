/-
  The reference of layer 3: Stream, Expand, Derive. Conditions: texts not too long.
-/
import Derived.Test.YtjbmdeppoobccaaRefMac
namespace Go.Proofs.Ytjbmdeppoobccaa
open Go.RowKit

theorem lit1 {w : World} {x : Nat} (hx : x < 256) : TextAt (w.alloc (.cells #[.int .u8 (x : Int)] 5)) (.slice (some ⟨w.heap.size, 0, none⟩) 1 1) [x] :=
  RowB.text (show RowB (w.alloc (.cells (u8s [x]) 5)) w.heap.size 5 [x] from heap_alloc_new _ _) (by intro y hy; simp at hy; omega) rfl

set_option maxRecDepth 100000 in
set_option maxHeartbeats 2000000 in
theorem ref_stream (w : World) (vk vn : Value) (key name : List Nat) (p : Nat) (hk : TextAt w vk key) (hn : TextAt w vn name) (h1 : key.length < 900000) (h2 : name.length < 800000) (hp : p ≤ 255) :
    Calls Try.prog 55 #[vk, vn, .int .i64 (p : Int)] w fun e w' => ∃ v', e = .returned v' ∧ Own w' w.heap.size 5 v' (u8l (outTo key name p)) ∧ Below w.heap.size w w' := by
  replace hk := Lib.hid hk
  replace hn := Lib.hid hn
  go_enter Try.func55, Try.ntmps55
  go_wp2_with fail
  go_loopw [7, 8, 9] (fun out last i wr => ∃ k : Nat, k ≤ p ∧ i = .int .i64 ((k : Int) + 1) ∧ Own wr w.heap.size 5 out (u8l (outTo key name k)) ∧ TextAt wr last (lastTo key name k) ∧ Below w.heap.size w wr) (fun _ _ i _ => 257 - (intOf i).toNat)
  case atStart => exact ⟨0, Nat.zero_le _, rfl, Own.nil _ _ _, TextAt.nil _, Below.refl _ _⟩
  case round =>
    obtain ⟨k, hk', rfl, hO, hL, hB⟩ := hrel
    by_cases hlt : k < p
    · have e1 : (k : Int) + 1 ≤ (p : Int) := by omega
      have elast := lastTo_succ key name k
      rw [show (k + 1) % 256 = k + 1 by omega] at elast
      have eout := outTo_succ key name k
      have l1 := lastTo_le key name k
      have l3 := outTo_length key name k
      have sp := lastTo_small key name k
      have cp := ref_copy wr u8 _ hL (by omega)
      have hsr := hB.size
      have nN := hn.out.small
      generalize eqL : lastTo key name (k + 1) = L at *
      generalize lastTo key name k = P at *
      generalize eqO : outTo key name (k + 1) = O' at *
      generalize outTo key name k = O at *
      replace hO := Lib.hid hO
      replace hL := Lib.hid hL
      replace hB := Lib.hid hB
      replace elast := Lib.hid elast
      replace eout := Lib.hid eout
      replace sp := Lib.hid sp
      replace cp := Lib.hid cp
      replace eqL := Lib.hid eqL
      replace eqO := Lib.hid eqO
      replace nN := Lib.hid nN
      go_wp2_with fail
      refine cp.out.mono ?_
      rintro e w1 ⟨v1, rfl, O1, B1⟩
      have n1 := (hn.out.below hB.out).below B1
      have s1 := B1.size
      replace O1 := Lib.hid O1
      replace B1 := Lib.hid B1
      replace n1 := Lib.hid n1
      go_wp2_with (first
        | (at_builtin; refine wpList_append_s (by rfl) (.tmp 17) (.tmp 18) rfl wr.heap.size wr v1 P rfl O1.out B1.out s1 vn name rfl n1.out (by omega) ?_; intro v2 w2 O2 B2
           have s2 := B2.out.size)
        | (at_builtin; refine wpList_append_s (by rfl) (.tmp 21) (.tmp 24) rfl wr.heap.size wr v2 (P ++ name) rfl (O2.out.alloc _) (B2.out.alloc s2 _) (by simp; omega) (.slice (some ⟨w2.heap.size, 0, none⟩) 1 1) [k + 1] rfl (by exact lit1 (x := k + 1) (by omega)) (by simp; omega) ?_; intro v3 w3 O3 B3))
      have sx : ∀ x ∈ P ++ name ++ [k + 1], x < 256 := fun x hx => by
        rcases List.mem_append.1 hx with hx | hx
        · rcases List.mem_append.1 hx with hx | hx
          · exact sp.out x hx
          · exact nN.out x hx
        · simp at hx; omega
      have T3 := O3.out.text sx
      have s3 := B3.out.size
      have k3 := (hk.out.below hB.out).below (B3.out)
      have mc := ref_mac w3 vk v3 key _ k3 T3 h1 (by simp; omega)
      rw [← elast.out] at mc
      replace sx := Lib.hid sx
      replace T3 := Lib.hid T3
      replace k3 := Lib.hid k3
      replace mc := Lib.hid mc
      refine mc.out.mono ?_
      rintro e w4 ⟨v4, rfl, O4, B4⟩
      have Ox : Own w4 w.heap.size 5 u7 (u8l O) := (hO.out.below B3.out).below B4
      have B4' : Below w.heap.size w w4 := (hB.out.trans (B3.out.mono hsr)).trans (B4.mono (by omega))
      have ap : Apart u7 v4 := fun g g1 g2 => by
        have := (hO.out.lt g g1).2
        have := (O4.lt g g2).1
        omega
      have T4 := O4.text (by rw [← eqL.out]; exact lastTo_small key name (k + 1))
      have l4 : L.length = 32 := by rw [← eqL.out]; exact lastTo_length key name k
      have s4 := B4'.size
      replace O4 := Lib.hid O4
      replace B4 := Lib.hid B4
      replace Ox := Lib.hid Ox
      replace B4' := Lib.hid B4'
      replace ap := Lib.hid ap
      replace T4 := Lib.hid T4
      clear mc
      go_wp2_with (first
        | (at_builtin; refine wpList_append_t (by rfl) (.tmp 27) (.tmp 28) rfl w.heap.size w u7 O rfl Ox.out B4'.out s4 v4 L rfl T4.out (by omega) ?_; intro v5 w5 O5 B5 g5 b5))
      have T5 := (O4.out.keep g5.out ap.out).text (by rw [← eqL.out]; exact lastTo_small key name (k + 1))
      replace T5 := Lib.hid T5
      go_roundw
      case rel => exact ⟨k + 1, by omega, by go_num, by rw [eqO.out, eout.out]; exact O5.out, by rw [eqL.out]; exact T5.out, B5.out⟩
      case measure => simp [intOf]; omega
    · obtain rfl : k = p := by omega
      have e1 : ¬ ((k : Int) + 1 ≤ (k : Int)) := by omega
      replace hO := Lib.hid hO
      replace hL := Lib.hid hL
      replace hB := Lib.hid hB
      go_wp2_with fail
      go_ret
      exact ⟨_, rfl, hO.out, hB.out⟩

set_option maxRecDepth 100000 in
theorem ref_expand_neg (w : World) (vk vn : Value) (n : Int) (h : n < 0) :
    Calls Try.prog 31 #[vk, vn, .int .i64 n] w fun e w' => e = .returned (.tuple #[.slice none 0 0, .int .i64 1]) ∧ w = w' := by
  go_enter Try.func31, Try.ntmps31
  go_wp2_with fail
  go_ret2
  exact ⟨rfl, rfl⟩
set_option maxRecDepth 100000 in
theorem ref_expand_long (w : World) (vk vn : Value) (n : Int) (h : 8160 < n) :
    Calls Try.prog 31 #[vk, vn, .int .i64 n] w fun e w' => e = .returned (.tuple #[.slice none 0 0, .int .i64 2]) ∧ w = w' := by
  have h0 : ¬ n < 0 := by omega
  go_enter Try.func31, Try.ntmps31
  go_wp2_with fail
  go_ret2
  exact ⟨rfl, rfl⟩
set_option maxRecDepth 100000 in
theorem ref_expand (w : World) (vk vn : Value) (key name : List Nat) (n : Nat) (hk : TextAt w vk key) (hn : TextAt w vn name) (h1 : key.length < 900000) (h2 : name.length < 800000) (h3 : n ≤ 8160) :
    Calls Try.prog 31 #[vk, vn, .int .i64 (n : Int)] w fun e w' => ∃ a c, e = .returned (.tuple #[.slice a n c, .int .i64 0]) ∧ TextAt w' (.slice a n c) (expandOf key name n) ∧ Below w.heap.size w w' := by
  have h0 : ¬ (n : Int) < 0 := by omega
  have h8 : ¬ (8160 : Int) < (n : Int) := by omega
  have rs := ref_stream w vk vn key name ((n + 31) / 32) hk hn h1 h2 (by omega)
  rw [show (((n + 31) / 32 : Nat) : Int) = ((n : Int) + 31) / 32 by omega] at rs
  replace hk := Lib.hid hk
  replace hn := Lib.hid hn
  replace rs := Lib.hid rs
  go_enter Try.func31, Try.ntmps31
  go_wp2_with fail
  refine rs.out.mono ?_
  rintro e w1 ⟨v1, rfl, O1, B1⟩
  have T1 := O1.text (outTo_small key name _)
  obtain ⟨a, c, e1⟩ := T1.form
  have hl := outTo_length key name ((n + 31) / 32)
  rw [hl] at e1
  subst e1
  have hc : 32 * ((n + 31) / 32) ≤ c := by
    obtain ⟨_, _, e, g, _, _⟩ := T1.ex
    rw [hl] at e g
    cases e; exact g
  have hcut := run_cut_h (P := Try.prog) (T := 22) (e := 5) Try.underlying22 size8 a (32 * ((n + 31) / 32)) c n (by omega) (n : Int) rfl
  have T2 : TextAt w1 (.slice a n c) (expandOf key name n) := by
    have h := T1
    rw [← hl] at h
    exact h.cutHi (by rw [hl]; omega)
  replace T1 := Lib.hid T1
  replace T2 := Lib.hid T2
  replace O1 := Lib.hid O1
  replace B1 := Lib.hid B1
  generalize 32 * ((n + 31) / 32) = q at *
  go_wp2_with fail
  go_ret2
  exact ⟨a, c, rfl, T2.out, B1.out⟩

set_option maxRecDepth 100000 in
theorem ref_derive (w : World) (vk : Value) (key : List Nat) (s : ByteArray) (v : Nat) (hk : TextAt w vk key) (h1 : key.length < 900000) (h2 : s.size < 700000) (hv : v < 18446744073709551616) :
    Calls Try.prog 33 #[vk, .string s, .int .u64 (v : Int)] w fun e w' => ∃ v', e = .returned v' ∧ TextAt w' v' (macs key (textOf s ++ beBytes 8 v ++ [1])) ∧ Below w.heap.size w w' := by
  have hsz : (textOf s).length < 700000 := by rw [textOf_length]; exact h2
  replace hk := Lib.hid hk
  go_enter Try.func33, Try.ntmps33
  go_wp2_with (first
    | (refine wpList_conv_bytes (by rfl) (.tmp 8) rfl s rfl ?_; intro c1 w1 O1 B1
       have s1 := B1.out.size))
  have rb := ref_bytes w1 v 8 (by decide) (by omega)
  rw [show ((8 : Nat) : Int) = 8 from rfl] at rb
  replace rb := Lib.hid rb
  refine rb.out.mono ?_
  rintro e w2 ⟨v2, rfl, O2, B2⟩
  have T2 := O2.text (beBytes_lt 8 v)
  have F2 := O1.out.below B2
  have B2' : Below w.heap.size w w2 := B1.out.trans (B2.mono s1)
  replace T2 := Lib.hid T2
  replace F2 := Lib.hid F2
  replace B2' := Lib.hid B2'
  replace O2 := Lib.hid O2
  replace B2 := Lib.hid B2
  go_wp2_with (first
    | (at_builtin; refine wpList_append_f (by rfl) (.tmp 9) (.tmp 11) rfl w.heap.size w _ (textOf s) rfl F2.out B2'.out v2 (beBytes 8 v) rfl T2.out (by rw [length_beBytes]; omega) ?_; intro v3 w3 T3 B3))
  have s3 := B3.out.size
  have rs := ref_stream w3 vk v3 key _ 1 (hk.out.below B3.out) T3.out h1 (by rw [List.length_append, length_beBytes]; omega) (by decide)
  rw [outTo_one, show ((1 : Nat) : Int) = 1 from rfl] at rs
  replace rs := Lib.hid rs
  refine rs.out.mono ?_
  rintro e w4 ⟨v4, rfl, O4, B4⟩
  have T4 := O4.text (macs_small _ _)
  replace O4 := Lib.hid O4
  replace T4 := Lib.hid T4
  replace B4 := Lib.hid B4
  go_wp2_with fail
  go_ret
  exact ⟨_, rfl, T4.out, B3.out.trans (B4.out.mono s3)⟩

end Go.Proofs.Ytjbmdeppoobccaa
