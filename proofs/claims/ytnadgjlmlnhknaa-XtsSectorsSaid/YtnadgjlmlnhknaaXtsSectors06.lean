/-
  The law XtsSectors. Condition: keys of 32 bytes, a tweak of 16, a text.
-/
import Derived.Test.YtnadgjlmlnhknaaLaw06
import Derived.Test.YtnadgjlmlnhknaaRef06
import Derived.Test.YtnadgjlmlnhknaaAesWords05
namespace Go.Proofs.Ytnadgjlmlnhknaa
open Go.RowKit

def secE (n : Nat) : Int := if sectorB n = true then 0 else 3
def secT (E : (Nat → Nat) → Nat → Nat) (M : Nat → Nat) (l : List Nat) (n : Nat) : List Nat := if sectorB n = true then bytesOf (sec E M (byt l)) n else []
set_option maxRecDepth 100000 in
theorem xturn_res (w : World) (b : Nat) (V W : Nat → Nat) (h : XtsAt w b V W) (hV : ∀ i, V i < 256) (hW : ∀ i, W i < 256) (tw : Nat → Nat) (ht : Bytes16 tw) (ao : Option Addr) (l : List Nat) (n cap : Nat) (en : l.length = n) (hn : n < 9223372036854775808) (hl : TextAt w (.slice ao n cap) l) :
    Calls Try.prog 31 #[.pointer (some ⟨b, 0, none⟩), .agg (u8s (tab tw)), .slice ao n cap] w fun e w' => ∃ v, e = .returned (.tuple #[v, .int .i64 (secE n)]) ∧ TextAt w' v (secT (turnF V) (turnF W tw) l n) ∧ Below w.heap.size w w' := by
  unfold secE secT
  cases hs : sectorB n with
  | true =>
    refine (xturn_ok w b V W h hV hW tw ht ao l n cap en hl hs).mono ?_
    rintro e w' ⟨v, rfl, o, B⟩
    exact ⟨v, rfl, o.text (bytesOf_lt fun i _ => sec_lt (fun x hx => bytes_turn hV hx) (bytes_turn hW ht) (byt_lt hl.small) i), B⟩
  | false =>
    refine (xturn_bad w b V W h tw ao n cap hn hs).mono ?_
    rintro e w' ⟨rfl, B⟩
    exact ⟨_, rfl, TextAt.nil _, B⟩
theorem r6turn_res (w : World) (c1 c2 : Nat) (V W : Nat → Nat) (h1 : RefAt w c1 V) (h2 : RefAt w c2 W) (hV : ∀ i, V i < 256) (hW : ∀ i, W i < 256) (vt : Value) (tw : Nat → Nat) (ht : Bytes16 tw) (htw : TextAt w vt (tab tw)) (ao : Option Addr) (l : List Nat) (n cap : Nat) (en : l.length = n) (hn : n < 9223372036854775808) (hl : TextAt w (.slice ao n cap) l) :
    Calls Try.prog 32 #[.pointer (some ⟨c1, 0, none⟩), .pointer (some ⟨c2, 0, none⟩), vt, .slice ao n cap, .bool false] w fun e w' => ∃ v, e = .returned (.tuple #[v, .int .i64 (secE n)]) ∧ TextAt w' v (secT (turnF V) (turnF W tw) l n) ∧ Below w.heap.size w w' := by
  unfold secE secT
  cases hs : sectorB n with
  | true =>
    refine (r6turn_ok w c1 c2 V W h1 h2 hV hW vt tw ht htw ao l n cap en hl hs).mono ?_
    rintro e w' ⟨v, rfl, o, B⟩
    exact ⟨v, rfl, o.text (bytesOf_lt fun i _ => sec_lt (fun x hx => bytes_turn hV hx) (bytes_turn hW ht) (byt_lt hl.small) i), B⟩
  | false =>
    refine (r6turn_bad w _ _ vt ao n cap hn hs).mono ?_
    rintro e w' ⟨rfl, B⟩
    exact ⟨_, rfl, TextAt.nil _, B⟩
set_option maxRecDepth 100000 in
theorem xback_res (w : World) (b : Nat) (V W : Nat → Nat) (h : XtsAt w b V W) (hV : ∀ i, V i < 256) (hW : ∀ i, W i < 256) (tw : Nat → Nat) (ht : Bytes16 tw) (ao : Option Addr) (l : List Nat) (n cap : Nat) (en : l.length = n) (hn : n < 9223372036854775808) (hl : TextAt w (.slice ao n cap) l) :
    Calls Try.prog 33 #[.pointer (some ⟨b, 0, none⟩), .agg (u8s (tab tw)), .slice ao n cap] w fun e w' => ∃ v, e = .returned (.tuple #[v, .int .i64 (secE n)]) ∧ TextAt w' v (secT (backF V) (turnF W tw) l n) ∧ Below w.heap.size w w' := by
  unfold secE secT
  cases hs : sectorB n with
  | true =>
    refine (xback_ok w b V W h hV hW tw ht ao l n cap en hl hs).mono ?_
    rintro e w' ⟨v, rfl, o, B⟩
    exact ⟨v, rfl, o.text (bytesOf_lt fun i _ => sec_lt (fun x hx => bytes_back hV hx) (bytes_turn hW ht) (byt_lt hl.small) i), B⟩
  | false =>
    refine (xback_bad w b V W h tw ao n cap hn hs).mono ?_
    rintro e w' ⟨rfl, B⟩
    exact ⟨_, rfl, TextAt.nil _, B⟩
theorem r6back_res (w : World) (c1 c2 : Nat) (V W : Nat → Nat) (h1 : RefAt w c1 V) (h2 : RefAt w c2 W) (hV : ∀ i, V i < 256) (hW : ∀ i, W i < 256) (vt : Value) (tw : Nat → Nat) (ht : Bytes16 tw) (htw : TextAt w vt (tab tw)) (ao : Option Addr) (l : List Nat) (n cap : Nat) (en : l.length = n) (hn : n < 9223372036854775808) (hl : TextAt w (.slice ao n cap) l) :
    Calls Try.prog 32 #[.pointer (some ⟨c1, 0, none⟩), .pointer (some ⟨c2, 0, none⟩), vt, .slice ao n cap, .bool true] w fun e w' => ∃ v, e = .returned (.tuple #[v, .int .i64 (secE n)]) ∧ TextAt w' v (secT (backF V) (turnF W tw) l n) ∧ Below w.heap.size w w' := by
  unfold secE secT
  cases hs : sectorB n with
  | true =>
    refine (r6back_ok w c1 c2 V W h1 h2 hV hW vt tw ht htw ao l n cap en hl hs).mono ?_
    rintro e w' ⟨v, rfl, o, B⟩
    exact ⟨v, rfl, o.text (bytesOf_lt fun i _ => sec_lt (fun x hx => bytes_back hV hx) (bytes_turn hW ht) (byt_lt hl.small) i), B⟩
  | false =>
    refine (r6back_bad w _ _ vt ao n cap hn hs).mono ?_
    rintro e w' ⟨rfl, B⟩
    exact ⟨_, rfl, TextAt.nil _, B⟩
set_option maxRecDepth 100000 in
theorem xback_nil (w : World) (tw : Nat → Nat) (v : Value) :
    Calls Try.prog 33 #[.pointer none, .agg (u8s (tab tw)), v] w fun e w' => e = .returned (.tuple #[.slice none 0 0, .int .i64 6]) ∧ Below w.heap.size w w' := by
  go_enter Try.func33, Try.ntmps33
  go_wp2_with fail
  go_ret2
  exact ⟨rfl, (Below.refl _ _).alloc (Nat.le_refl _) _⟩

/-- What the law keeps: its keys and its tweak, its text; the ciphers. -/
structure SctSt (w w' : World) (k1 k2 l : List Nat) (tw : Nat → Nat) (ao : Option Addr) (n cap : Nat) : Prop where
  a : RowB w' w.heap.size 23 k1
  b : RowB w' (w.heap.size + 1) 23 k2
  t : RowB w' (w.heap.size + 2) 24 (tab tw)
  l : TextAt w' (.slice ao n cap) l
  low : Below w.heap.size w w'
theorem SctSt.below {w w' w2 : World} {k1 k2 l : List Nat} {tw : Nat → Nat} {ao : Option Addr} {n cap : Nat} (h : SctSt w w' k1 k2 l tw ao n cap) (hB : Below w'.heap.size w' w2) : SctSt w w2 k1 k2 l tw ao n cap :=
  ⟨h.a.below hB h.a.lt, h.b.below hB h.b.lt, h.t.below hB h.t.lt, h.l.below hB, h.low.trans (hB.mono h.low.size)⟩

set_option maxHeartbeats 8000000 in
set_option maxRecDepth 100000 in
theorem lxsectors_any (w : World) (k1 k2 : List Nat) (h1 : k1.length = 32) (s1 : ∀ x ∈ k1, x < 256) (h2 : k2.length = 32) (s2 : ∀ x ∈ k2, x < 256) (lt : List Nat) (ht1 : lt.length = 16) (st1 : ∀ x ∈ lt, x < 256) (ao : Option Addr) (l : List Nat) (n cap : Nat) (en : l.length = n) (hl : TextAt w (.slice ao n cap) l) (hn : n < 9223372036854775808) :
    Calls Try.prog 9 #[.agg (u8s k1), .agg (u8s k2), .agg (u8s lt), .slice ao n cap] w fun e w' => e = .returned (.bool true) ∧ Below w.heap.size w w' := by
  obtain ⟨tw, etw⟩ : ∃ tw, tw = byt lt := ⟨_, rfl⟩
  have el : lt = tab tw := by rw [etw, tab_byt ht1]
  have ht : Bytes16 tw := fun i _ => by rw [etw]; exact byt_small st1 i
  subst el
  clear etw ht1 st1
  have low0 : Below w.heap.size w (((w.alloc (.cells (u8s k1) 23)).alloc (.cells (u8s k2) 23)).alloc (.cells (u8s (tab tw)) 24)) := (((Below.refl _ _).alloc (Nat.le_refl _) _).alloc (by simp) _).alloc (by simp; omega) _
  have S0 : SctSt w (((w.alloc (.cells (u8s k1) 23)).alloc (.cells (u8s k2) 23)).alloc (.cells (u8s (tab tw)) 24)) k1 k2 l tw ao n cap := by
    have r0 : RowB (w.alloc (.cells (u8s k1) 23)) w.heap.size 23 k1 := heap_alloc_new _ _
    have r1 : RowB ((w.alloc (.cells (u8s k1) 23)).alloc (.cells (u8s k2) 23)) (w.heap.size + 1) 23 k2 := by
      rw [show w.heap.size + 1 = (w.alloc (.cells (u8s k1) 23)).heap.size by simp]; exact heap_alloc_new _ _
    have r2 : RowB (((w.alloc (.cells (u8s k1) 23)).alloc (.cells (u8s k2) 23)).alloc (.cells (u8s (tab tw)) 24)) (w.heap.size + 2) 24 (tab tw) := by
      rw [show w.heap.size + 2 = ((w.alloc (.cells (u8s k1) 23)).alloc (.cells (u8s k2) 23)).heap.size by simp]; exact heap_alloc_new _ _
    exact ⟨(r0.alloc _).alloc _, r1.alloc _, r2, hl.below low0, low0⟩
  have i1 := info32 h1
  have i2 := info32 h2
  have it := info16 tw
  have hV : ∀ i, byt (wordsOf (byt k1)) i < 256 := words_lt (byt_small s1) 60
  have hW : ∀ i, byt (wordsOf (byt k2)) i < 256 := words_lt (byt_small s2) 60
  have cn := Lib.hid (xnew_any (((w.alloc (.cells (u8s k1) 23)).alloc (.cells (u8s k2) 23)).alloc (.cells (u8s (tab tw)) 24)) k1 k2 h1 s1 h2 s2)
  have rn1 := Lib.hid (fun wx vx h => rnew_any wx vx k1 h1 h)
  have rn2 := Lib.hid (fun wx vx h => rnew_any wx vx k2 h2 h)
  generalize byt (wordsOf (byt k1)) = V at *
  generalize byt (wordsOf (byt k2)) = W at *
  have al := Lib.hid (fun x => alive06 x)
  have a0 := S0.a
  have b0 := S0.b
  clear hl
  replace hV := Lib.hid hV
  replace hW := Lib.hid hW
  replace low0 := Lib.hid low0
  replace S0 := Lib.hid S0
  replace en := Lib.hid en
  replace s1 := Lib.hid s1
  replace s2 := Lib.hid s2
  replace h1 := Lib.hid h1
  replace h2 := Lib.hid h2
  replace ht := Lib.hid ht
  by_cases g1 : n ≤ 100
  · have d1 : decide ((n : Int) > 100) = false := decide_eq_false (by omega)
    have d3 : decide ((n : Int) > 65556) = false := decide_eq_false (by omega)
    have ct := fun wx b (hx : XtsAt wx b V W) (t' : TextAt wx (.slice ao n cap) l) => xturn_res wx b V W hx hV.out hW.out tw ht.out ao l n cap en.out hn t'
    have cb := fun wx b (hx : XtsAt wx b V W) (t' : TextAt wx (.slice ao n cap) l) => xback_res wx b V W hx hV.out hW.out tw ht.out ao l n cap en.out hn t'
    have rt := fun wx c1 c2 (hx : RefAt wx c1 V) (hy : RefAt wx c2 W) vt (h' : TextAt wx vt (tab tw)) (t' : TextAt wx (.slice ao n cap) l) => r6turn_res wx c1 c2 V W hx hy hV.out hW.out vt tw ht.out h' ao l n cap en.out hn t'
    have rb := fun wx c1 c2 (hx : RefAt wx c1 V) (hy : RefAt wx c2 W) vt (h' : TextAt wx vt (tab tw)) (t' : TextAt wx (.slice ao n cap) l) => r6back_res wx c1 c2 V W hx hy hV.out hW.out vt tw ht.out h' ao l n cap en.out hn t'
    generalize secT (turnF V) (turnF W tw) l n = T1 at *
    generalize secT (backF V) (turnF W tw) l n = T2 at *
    generalize secE n = E at *
    replace ct := Lib.hid ct
    replace cb := Lib.hid cb
    replace rt := Lib.hid rt
    replace rb := Lib.hid rb
    go_enter Try.func9, Try.ntmps9
    go_wp2_with (first
      | (refine wpList_load_b (by rfl) 23 (.tmp 4) rfl w.heap.size rfl 23 k1 a0 _ Try.underlying23 rfl i1 ?_)
      | (refine wpList_load_b (by rfl) 23 (.tmp 5) rfl (w.heap.size + 1) rfl 23 k2 b0 _ Try.underlying23 rfl i2 ?_))
    refine cn.out.mono ?_
    rintro e w1 ⟨b, rfl, hb0, hX, B1⟩
    have S1 := (S0.out.below B1).below (Below.refl _ _).drew
    have X1 := (hX.below (Below.refl _ _).drew)
    have ka := S1.a
    have kb := S1.b
    clear cn a0 b0 hX B1
    replace hb0 := Lib.hid hb0
    replace S1 := Lib.hid S1
    replace X1 := Lib.hid X1
    go_wp2_with fail
    refine wp_region_held_drew (S := (fun w' => RowB w' w.heap.size 23 k1 ∧ RowB w' (w.heap.size + 1) 23 k2)) (by kernel_rfl) (⟨ka, kb⟩) (fun hHeld => ?_)
    refine held_take (i := 0) (v := ?_) rfl (by kernel_rfl) (by kernel_rfl) (by kernel_rfl) (fun _ _ _ h => h) (Or.inl ⟨by rfl, ?_⟩) (by assumption) ?_
    rotate_left
    · intro w hSw; (try dsimp only at hSw); go_simp; try with_reducible rfl
    try simp only [Act.put, List.setIfInBounds_toArray, List.set_cons_zero, List.set_cons_succ]
    refine held_take (i := 2) (v := ?_) rfl (by kernel_rfl) (by kernel_rfl) (by kernel_rfl) (fun _ _ _ h => h) (Or.inl ⟨by rfl, ?_⟩) (by assumption) ?_
    rotate_left
    · intro w hSw; (try dsimp only at hSw); go_simp; try with_reducible rfl
    try simp only [Act.put, List.setIfInBounds_toArray, List.set_cons_zero, List.set_cons_succ]
    refine held_ready (i := 1) rfl (by kernel_rfl) (fun K hK => ?_)
    go_simp
    refine (rn1.out _ _ (row_all ka s1.out h1.out)).mono ?_
    rintro e w2 ⟨c1, aw1, cw1, vb1, vk1, rfl, rC1, B2⟩
    have S2 := S1.out.below B2
    have X2 := X1.out.below B2
    have R2 : RefAt w2 c1 V := ⟨_, _, _, _, rC1⟩
    have ka2 := S2.a
    have kb2 := S2.b
    clear rC1 B2 S1 X1 ka kb
    replace S2 := Lib.hid S2
    replace X2 := Lib.hid X2
    replace R2 := Lib.hid R2
    refine hK.out _ _ (⟨ka2, kb2⟩) (fun hHeldN => ?_)
    clear hHeld hK K
    have hHeld := hHeldN
    clear hHeldN
    try simp only [Act.put, List.setIfInBounds_toArray, List.set_cons_zero, List.set_cons_succ]
    refine held_ready (i := 3) rfl (by kernel_rfl) (fun K hK => ?_)
    go_simp
    refine (rn2.out _ _ (row_all kb2 s2.out h2.out)).mono ?_
    rintro e w3 ⟨c2, aw2, cw2, vb2, vk2, rfl, rC2, B3⟩
    have S3 := S2.out.below B3
    have X3 := X2.out.below B3
    have R3 := R2.out.below B3
    have Q3 : RefAt w3 c2 W := ⟨_, _, _, _, rC2⟩
    have ka3 := S3.a
    have kb3 := S3.b
    have tw3 := S3.t
    clear rC2 B3 S2 X2 R2 ka2 kb2
    replace S3 := Lib.hid S3
    replace X3 := Lib.hid X3
    replace R3 := Lib.hid R3
    replace Q3 := Lib.hid Q3
    refine hK.out _ _ (⟨ka3, kb3⟩) (fun hHeldN => ?_)
    clear hHeld hK K
    have hHeld := hHeldN
    clear hHeldN
    try simp only [Act.put, List.setIfInBounds_toArray, List.set_cons_zero, List.set_cons_succ]
    refine held_take (i := 4) (v := ?_) rfl (by kernel_rfl) (by kernel_rfl) (by kernel_rfl) (fun _ _ _ h => h) (Or.inl ⟨by rfl, ?_⟩) (by assumption) ?_
    rotate_left
    · intro w hSw; (try dsimp only at hSw); go_simp; try with_reducible rfl
    try simp only [Act.put, List.setIfInBounds_toArray, List.set_cons_zero, List.set_cons_succ]
    refine held_take (i := 5) (v := ?_) rfl (by kernel_rfl) (by kernel_rfl) (by kernel_rfl) (fun _ _ _ h => h) (Or.inl ⟨by rfl, ?_⟩) (by assumption) ?_
    rotate_left
    · intro w hSw; (try dsimp only at hSw); go_simp; try with_reducible rfl
    try simp only [Act.put, List.setIfInBounds_toArray, List.set_cons_zero, List.set_cons_succ]
    refine wpAnyH_done (by kernel_rfl) ?_ _
    clear hHeld
    clear ka3 kb3
    go_wp2_with (refine wpList_load_b (by rfl) 24 (.tmp 6) rfl (w.heap.size + 2) rfl 24 (tab tw) tw3 _ Try.underlying24 rfl it ?_)
    refine (ct.out _ _ X3.out S3.out.l).mono ?_
    rintro e w4 ⟨v4, rfl, t4, B4⟩
    have S4 := S3.out.below B4
    have X4 := X3.out.below B4
    have R4 := R3.out.below B4
    have Q4 := Q3.out.below B4
    clear S3 X3 R3 Q3 B4 tw3
    replace S4 := Lib.hid S4
    replace X4 := Lib.hid X4
    replace R4 := Lib.hid R4
    replace Q4 := Lib.hid Q4
    replace t4 := Lib.hid t4
    go_wp2_with fail
    refine (rt.out _ _ _ R4.out Q4.out _ (row_all S4.out.t (tabs_lt ht.out) (length_tab _)) S4.out.l).mono ?_
    rintro e w5 ⟨v5, rfl, t5, B5⟩
    have S5 := S4.out.below B5
    have X5 := X4.out.below B5
    have R5 := R4.out.below B5
    have Q5 := Q4.out.below B5
    have p5 := t4.out.below B5
    have tw5 := S5.t
    clear S4 X4 R4 Q4 t4 B5
    replace S5 := Lib.hid S5
    replace X5 := Lib.hid X5
    replace R5 := Lib.hid R5
    replace Q5 := Lib.hid Q5
    replace t5 := Lib.hid t5
    replace p5 := Lib.hid p5
    go_wp2_with (refine wpList_load_b (by rfl) 24 (.tmp 6) rfl (w.heap.size + 2) rfl 24 (tab tw) tw5 _ Try.underlying24 rfl it ?_)
    refine (cb.out _ _ X5.out S5.out.l).mono ?_
    rintro e w6 ⟨v6, rfl, t6, B6⟩
    have S6 := S5.out.below B6
    have R6 := R5.out.below B6
    have Q6 := Q5.out.below B6
    have p6 := p5.out.below B6
    have q6 := t5.out.below B6
    clear S5 X5 R5 Q5 t5 p5 B6 tw5
    replace S6 := Lib.hid S6
    replace R6 := Lib.hid R6
    replace Q6 := Lib.hid Q6
    replace t6 := Lib.hid t6
    replace p6 := Lib.hid p6
    replace q6 := Lib.hid q6
    go_wp2_with fail
    refine (rb.out _ _ _ R6.out Q6.out _ (row_all S6.out.t (tabs_lt ht.out) (length_tab _)) S6.out.l).mono ?_
    rintro e w7 ⟨v7, rfl, t7, B7⟩
    have S7 := S6.out.below B7
    have p7 := p6.out.below B7
    have q7 := q6.out.below B7
    have u7 := t6.out.below B7
    have tw7 := S7.t
    clear S6 R6 Q6 t6 p6 q6 B7
    replace S7 := Lib.hid S7
    replace t7 := Lib.hid t7
    replace p7 := Lib.hid p7
    replace q7 := Lib.hid q7
    replace u7 := Lib.hid u7
    go_wp2_with (refine wpList_load_b (by rfl) 24 (.tmp 6) rfl (w.heap.size + 2) rfl 24 (tab tw) tw7 _ Try.underlying24 rfl it ?_)
    refine (xturn_nil _ tw _).mono ?_
    rintro e w8 ⟨rfl, B8⟩
    have S8 := S7.out.below B8
    have p8 := p7.out.below B8
    have q8 := q7.out.below B8
    have u8 := u7.out.below B8
    have y8 := t7.out.below B8
    have tw8 := S8.t
    clear S7 t7 p7 q7 u7 B8 tw7
    replace S8 := Lib.hid S8
    replace y8 := Lib.hid y8
    replace p8 := Lib.hid p8
    replace q8 := Lib.hid q8
    replace u8 := Lib.hid u8
    go_wp2_with (refine wpList_load_b (by rfl) 24 (.tmp 6) rfl (w.heap.size + 2) rfl 24 (tab tw) tw8 _ Try.underlying24 rfl it ?_)
    refine (xback_nil _ tw _).mono ?_
    rintro e w9 ⟨rfl, B9⟩
    have S9 := S8.out.below B9
    have p9 := p8.out.below B9
    have q9 := q8.out.below B9
    have u9 := u8.out.below B9
    have y9 := y8.out.below B9
    clear S8 y8 p8 q8 u8 B9 tw8
    replace S9 := Lib.hid S9
    replace y9 := Lib.hid y9
    replace p9 := Lib.hid p9
    replace q9 := Lib.hid q9
    replace u9 := Lib.hid u9
    go_wp2_with fail
    refine (al.out _).mono ?_
    rintro e wa ⟨rfl, Ba⟩
    have lowa := (S9.out.below Ba).low
    have r1 := run_str (p9.out.below Ba)
    have r2 := run_str (q9.out.below Ba)
    have r3 := run_str (u9.out.below Ba)
    have r4 := run_str (y9.out.below Ba)
    clear S9 y9 p9 q9 u9 Ba
    replace lowa := Lib.hid lowa
    go_wp2_with fail
    go_ret
    exact ⟨rfl, lowa.out⟩
  · have d1 : decide ((n : Int) > 100) = true := decide_eq_true (by omega)
    by_cases g2 : n ≤ 65536
    · have d2 : decide ((n : Int) ≤ 65536) = true := decide_eq_true (by omega)
      go_enter Try.func9, Try.ntmps9
      go_wp2_with fail
      refine (al.out _).mono ?_
      rintro e w2 ⟨rfl, B2⟩
      have low2 := low0.out.trans (B2.mono low0.out.size)
      replace B2 := Lib.hid B2
      replace low2 := Lib.hid low2
      go_wp2_with fail
      go_ret
      exact ⟨rfl, low2.out⟩
    · have d2 : decide ((n : Int) ≤ 65536) = false := decide_eq_false (by omega)
      by_cases g3 : n ≤ 65556
      · have d3 : decide ((n : Int) > 65556) = false := decide_eq_false (by omega)
        have ct := fun wx b (hx : XtsAt wx b V W) (t' : TextAt wx (.slice ao n cap) l) => xturn_res wx b V W hx hV.out hW.out tw ht.out ao l n cap en.out hn t'
        have cb := fun wx b (hx : XtsAt wx b V W) (t' : TextAt wx (.slice ao n cap) l) => xback_res wx b V W hx hV.out hW.out tw ht.out ao l n cap en.out hn t'
        have rt := fun wx c1 c2 (hx : RefAt wx c1 V) (hy : RefAt wx c2 W) vt (h' : TextAt wx vt (tab tw)) (t' : TextAt wx (.slice ao n cap) l) => r6turn_res wx c1 c2 V W hx hy hV.out hW.out vt tw ht.out h' ao l n cap en.out hn t'
        have rb := fun wx c1 c2 (hx : RefAt wx c1 V) (hy : RefAt wx c2 W) vt (h' : TextAt wx vt (tab tw)) (t' : TextAt wx (.slice ao n cap) l) => r6back_res wx c1 c2 V W hx hy hV.out hW.out vt tw ht.out h' ao l n cap en.out hn t'
        generalize secT (turnF V) (turnF W tw) l n = T1 at *
        generalize secT (backF V) (turnF W tw) l n = T2 at *
        generalize secE n = E at *
        replace ct := Lib.hid ct
        replace cb := Lib.hid cb
        replace rt := Lib.hid rt
        replace rb := Lib.hid rb
        go_enter Try.func9, Try.ntmps9
        go_wp2_with (first
          | (refine wpList_load_b (by rfl) 23 (.tmp 4) rfl w.heap.size rfl 23 k1 a0 _ Try.underlying23 rfl i1 ?_)
          | (refine wpList_load_b (by rfl) 23 (.tmp 5) rfl (w.heap.size + 1) rfl 23 k2 b0 _ Try.underlying23 rfl i2 ?_))
        refine cn.out.mono ?_
        rintro e w1 ⟨b, rfl, hb0, hX, B1⟩
        have S1 := (S0.out.below B1).below (Below.refl _ _).drew
        have X1 := (hX.below (Below.refl _ _).drew)
        have ka := S1.a
        have kb := S1.b
        clear cn a0 b0 hX B1
        replace hb0 := Lib.hid hb0
        replace S1 := Lib.hid S1
        replace X1 := Lib.hid X1
        go_wp2_with fail
        refine wp_region_held_drew (S := (fun w' => RowB w' w.heap.size 23 k1 ∧ RowB w' (w.heap.size + 1) 23 k2)) (by kernel_rfl) (⟨ka, kb⟩) (fun hHeld => ?_)
        refine held_take (i := 0) (v := ?_) rfl (by kernel_rfl) (by kernel_rfl) (by kernel_rfl) (fun _ _ _ h => h) (Or.inl ⟨by rfl, ?_⟩) (by assumption) ?_
        rotate_left
        · intro w hSw; (try dsimp only at hSw); go_simp; try with_reducible rfl
        try simp only [Act.put, List.setIfInBounds_toArray, List.set_cons_zero, List.set_cons_succ]
        refine held_take (i := 2) (v := ?_) rfl (by kernel_rfl) (by kernel_rfl) (by kernel_rfl) (fun _ _ _ h => h) (Or.inl ⟨by rfl, ?_⟩) (by assumption) ?_
        rotate_left
        · intro w hSw; (try dsimp only at hSw); go_simp; try with_reducible rfl
        try simp only [Act.put, List.setIfInBounds_toArray, List.set_cons_zero, List.set_cons_succ]
        refine held_ready (i := 1) rfl (by kernel_rfl) (fun K hK => ?_)
        go_simp
        refine (rn1.out _ _ (row_all ka s1.out h1.out)).mono ?_
        rintro e w2 ⟨c1, aw1, cw1, vb1, vk1, rfl, rC1, B2⟩
        have S2 := S1.out.below B2
        have X2 := X1.out.below B2
        have R2 : RefAt w2 c1 V := ⟨_, _, _, _, rC1⟩
        have ka2 := S2.a
        have kb2 := S2.b
        clear rC1 B2 S1 X1 ka kb
        replace S2 := Lib.hid S2
        replace X2 := Lib.hid X2
        replace R2 := Lib.hid R2
        refine hK.out _ _ (⟨ka2, kb2⟩) (fun hHeldN => ?_)
        clear hHeld hK K
        have hHeld := hHeldN
        clear hHeldN
        try simp only [Act.put, List.setIfInBounds_toArray, List.set_cons_zero, List.set_cons_succ]
        refine held_ready (i := 3) rfl (by kernel_rfl) (fun K hK => ?_)
        go_simp
        refine (rn2.out _ _ (row_all kb2 s2.out h2.out)).mono ?_
        rintro e w3 ⟨c2, aw2, cw2, vb2, vk2, rfl, rC2, B3⟩
        have S3 := S2.out.below B3
        have X3 := X2.out.below B3
        have R3 := R2.out.below B3
        have Q3 : RefAt w3 c2 W := ⟨_, _, _, _, rC2⟩
        have ka3 := S3.a
        have kb3 := S3.b
        have tw3 := S3.t
        clear rC2 B3 S2 X2 R2 ka2 kb2
        replace S3 := Lib.hid S3
        replace X3 := Lib.hid X3
        replace R3 := Lib.hid R3
        replace Q3 := Lib.hid Q3
        refine hK.out _ _ (⟨ka3, kb3⟩) (fun hHeldN => ?_)
        clear hHeld hK K
        have hHeld := hHeldN
        clear hHeldN
        try simp only [Act.put, List.setIfInBounds_toArray, List.set_cons_zero, List.set_cons_succ]
        refine held_take (i := 4) (v := ?_) rfl (by kernel_rfl) (by kernel_rfl) (by kernel_rfl) (fun _ _ _ h => h) (Or.inl ⟨by rfl, ?_⟩) (by assumption) ?_
        rotate_left
        · intro w hSw; (try dsimp only at hSw); go_simp; try with_reducible rfl
        try simp only [Act.put, List.setIfInBounds_toArray, List.set_cons_zero, List.set_cons_succ]
        refine held_take (i := 5) (v := ?_) rfl (by kernel_rfl) (by kernel_rfl) (by kernel_rfl) (fun _ _ _ h => h) (Or.inl ⟨by rfl, ?_⟩) (by assumption) ?_
        rotate_left
        · intro w hSw; (try dsimp only at hSw); go_simp; try with_reducible rfl
        try simp only [Act.put, List.setIfInBounds_toArray, List.set_cons_zero, List.set_cons_succ]
        refine wpAnyH_done (by kernel_rfl) ?_ _
        clear hHeld
        clear ka3 kb3
        go_wp2_with (refine wpList_load_b (by rfl) 24 (.tmp 6) rfl (w.heap.size + 2) rfl 24 (tab tw) tw3 _ Try.underlying24 rfl it ?_)
        refine (ct.out _ _ X3.out S3.out.l).mono ?_
        rintro e w4 ⟨v4, rfl, t4, B4⟩
        have S4 := S3.out.below B4
        have X4 := X3.out.below B4
        have R4 := R3.out.below B4
        have Q4 := Q3.out.below B4
        clear S3 X3 R3 Q3 B4 tw3
        replace S4 := Lib.hid S4
        replace X4 := Lib.hid X4
        replace R4 := Lib.hid R4
        replace Q4 := Lib.hid Q4
        replace t4 := Lib.hid t4
        go_wp2_with fail
        refine (rt.out _ _ _ R4.out Q4.out _ (row_all S4.out.t (tabs_lt ht.out) (length_tab _)) S4.out.l).mono ?_
        rintro e w5 ⟨v5, rfl, t5, B5⟩
        have S5 := S4.out.below B5
        have X5 := X4.out.below B5
        have R5 := R4.out.below B5
        have Q5 := Q4.out.below B5
        have p5 := t4.out.below B5
        have tw5 := S5.t
        clear S4 X4 R4 Q4 t4 B5
        replace S5 := Lib.hid S5
        replace X5 := Lib.hid X5
        replace R5 := Lib.hid R5
        replace Q5 := Lib.hid Q5
        replace t5 := Lib.hid t5
        replace p5 := Lib.hid p5
        go_wp2_with (refine wpList_load_b (by rfl) 24 (.tmp 6) rfl (w.heap.size + 2) rfl 24 (tab tw) tw5 _ Try.underlying24 rfl it ?_)
        refine (cb.out _ _ X5.out S5.out.l).mono ?_
        rintro e w6 ⟨v6, rfl, t6, B6⟩
        have S6 := S5.out.below B6
        have R6 := R5.out.below B6
        have Q6 := Q5.out.below B6
        have p6 := p5.out.below B6
        have q6 := t5.out.below B6
        clear S5 X5 R5 Q5 t5 p5 B6 tw5
        replace S6 := Lib.hid S6
        replace R6 := Lib.hid R6
        replace Q6 := Lib.hid Q6
        replace t6 := Lib.hid t6
        replace p6 := Lib.hid p6
        replace q6 := Lib.hid q6
        go_wp2_with fail
        refine (rb.out _ _ _ R6.out Q6.out _ (row_all S6.out.t (tabs_lt ht.out) (length_tab _)) S6.out.l).mono ?_
        rintro e w7 ⟨v7, rfl, t7, B7⟩
        have S7 := S6.out.below B7
        have p7 := p6.out.below B7
        have q7 := q6.out.below B7
        have u7 := t6.out.below B7
        have tw7 := S7.t
        clear S6 R6 Q6 t6 p6 q6 B7
        replace S7 := Lib.hid S7
        replace t7 := Lib.hid t7
        replace p7 := Lib.hid p7
        replace q7 := Lib.hid q7
        replace u7 := Lib.hid u7
        go_wp2_with (refine wpList_load_b (by rfl) 24 (.tmp 6) rfl (w.heap.size + 2) rfl 24 (tab tw) tw7 _ Try.underlying24 rfl it ?_)
        refine (xturn_nil _ tw _).mono ?_
        rintro e w8 ⟨rfl, B8⟩
        have S8 := S7.out.below B8
        have p8 := p7.out.below B8
        have q8 := q7.out.below B8
        have u8 := u7.out.below B8
        have y8 := t7.out.below B8
        have tw8 := S8.t
        clear S7 t7 p7 q7 u7 B8 tw7
        replace S8 := Lib.hid S8
        replace y8 := Lib.hid y8
        replace p8 := Lib.hid p8
        replace q8 := Lib.hid q8
        replace u8 := Lib.hid u8
        go_wp2_with (refine wpList_load_b (by rfl) 24 (.tmp 6) rfl (w.heap.size + 2) rfl 24 (tab tw) tw8 _ Try.underlying24 rfl it ?_)
        refine (xback_nil _ tw _).mono ?_
        rintro e w9 ⟨rfl, B9⟩
        have S9 := S8.out.below B9
        have p9 := p8.out.below B9
        have q9 := q8.out.below B9
        have u9 := u8.out.below B9
        have y9 := y8.out.below B9
        clear S8 y8 p8 q8 u8 B9 tw8
        replace S9 := Lib.hid S9
        replace y9 := Lib.hid y9
        replace p9 := Lib.hid p9
        replace q9 := Lib.hid q9
        replace u9 := Lib.hid u9
        go_wp2_with fail
        refine (al.out _).mono ?_
        rintro e wa ⟨rfl, Ba⟩
        have lowa := (S9.out.below Ba).low
        have r1 := run_str (p9.out.below Ba)
        have r2 := run_str (q9.out.below Ba)
        have r3 := run_str (u9.out.below Ba)
        have r4 := run_str (y9.out.below Ba)
        clear S9 y9 p9 q9 u9 Ba
        replace lowa := Lib.hid lowa
        go_wp2_with fail
        go_ret
        exact ⟨rfl, lowa.out⟩
      · have d3 : decide ((n : Int) > 65556) = true := decide_eq_true (by omega)
        go_enter Try.func9, Try.ntmps9
        go_wp2_with fail
        refine (al.out _).mono ?_
        rintro e w2 ⟨rfl, B2⟩
        have low2 := low0.out.trans (B2.mono low0.out.size)
        replace B2 := Lib.hid B2
        replace low2 := Lib.hid low2
        go_wp2_with fail
        go_ret
        exact ⟨rfl, low2.out⟩
end Go.Proofs.Ytnadgjlmlnhknaa
