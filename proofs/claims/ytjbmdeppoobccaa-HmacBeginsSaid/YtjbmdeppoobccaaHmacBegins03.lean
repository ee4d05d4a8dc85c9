/-
  Law HmacBegins: fewer bytes of a stream are a beginning of more; its first 32 are the mark of the name and 1. Conditions: a key of 32 bytes; the name is not too long.
-/
import Derived.Test.YtjbmdeppoobccaaHmacMarks03
import Derived.Test.YtjbmdeppoobccaaHmacStreams03
namespace Go.Proofs.Ytjbmdeppoobccaa
open Go.RowKit

/-- What stays while the mark is made. -/
structure BegA (w : World) (kb : Nat) (v9 v11 v13 vn : Value) (key name A B C : List Nat) : Prop where
  k : RowB w kb 49 key
  n : TextAt w vn name
  a : TextAt w v9 A
  b : TextAt w v11 B
  c : TextAt w v13 C
theorem BegA.below {w w' : World} {kb : Nat} {v9 v11 v13 vn : Value} {key name A B C : List Nat} (h : BegA w kb v9 v11 v13 vn key name A B C) (hB : Below w.heap.size w w') : BegA w' kb v9 v11 v13 vn key name A B C :=
  ⟨h.k.below hB h.k.lt, h.n.below hB, h.a.below hB, h.b.below hB, h.c.below hB⟩
/-- The region's state: the text that is built (its slice, what it holds), the byte 1's block, the result's block. -/
structure Beg6 (w w6 wz : World) (kb : Nat) (v9 v11 v13 vn : Value) (key name A B C : List Nat) (o : Option (Value × List Nat)) (c z : Option Nat) : Prop where
  low : Below w6.heap.size w6 wz
  st : BegA wz kb v9 v11 v13 vn key name A B C
  own : ∀ v l, o = some (v, l) → Own wz w6.heap.size 5 v (u8l l)
  one : ∀ g, c = some g → TextAt wz (.slice (some ⟨g, 0, none⟩) 1 1) [1] ∧ g < wz.heap.size ∧ ∀ v l, o = some (v, l) → v.ownBlock ≠ some g
  res : ∀ g, z = some g → RowB wz g 27 (List.replicate 32 0) ∧ w6.heap.size ≤ g ∧ ∀ v l, o = some (v, l) → v.ownBlock ≠ some g
variable {w w6 wz : World} {kb : Nat} {v9 v11 v13 vn : Value} {key name A B C : List Nat} {o : Option (Value × List Nat)} {c z : Option Nat}
theorem Beg6.begin (hs : BegA w6 kb v9 v11 v13 vn key name A B C) : Beg6 w w6 w6.drew kb v9 v11 v13 vn key name A B C none none none :=
  ⟨(Below.refl _ _).drew, hs.below (Below.refl _ _).drew, (fun _ _ e => by cases e), (fun _ e => by cases e), (fun _ e => by cases e)⟩
theorem Beg6.at {x : World} (h : Beg6 w w6 x kb v9 v11 v13 vn key name A B C o c z) {wn : World} (e : wn = x) : Beg6 w w6 wn kb v9 v11 v13 vn key name A B C o c z := by rw [e]; exact h
theorem name_world2 {K : Act → World → Prop} {a : Act} {x : World} (h : ∀ wn, Hid (wn = x) → K a wn) : K a x := h x rfl
/-- A block more. -/
theorem Beg6.more (h : Beg6 w w6 wz kb v9 v11 v13 vn key name A B C o c z) {w' : World} (hB : Below wz.heap.size wz w') : Beg6 w w6 w' kb v9 v11 v13 vn key name A B C o c z :=
  ⟨h.low.trans (hB.mono h.low.size), h.st.below hB, fun v l e => (h.own v l e).below hB, fun g e => ⟨(h.one g e).1.below hB, Nat.lt_of_lt_of_le (h.one g e).2.1 hB.size, (h.one g e).2.2⟩,
    fun g e => ⟨(h.res g e).1.below hB (h.res g e).1.lt, (h.res g e).2⟩⟩
theorem Beg6.mk1 (h : Beg6 w w6 wz kb v9 v11 v13 vn key name A B C none c z) : Beg6 w w6 (wz.alloc (.cells #[] 5)) kb v9 v11 v13 vn key name A B C (some (.slice (some ⟨wz.heap.size, 0, none⟩) 0 0, [])) c z := by
  have h2 := h.more (w' := wz.alloc (.cells #[] 5)) ((Below.refl _ _).alloc (Nat.le_refl _) _)
  refine ⟨h2.low, h2.st, fun v l e => ?_, fun g e => ⟨(h2.one g e).1, (h2.one g e).2.1, fun v l ev => ?_⟩, fun g e => ⟨(h2.res g e).1, (h2.res g e).2.1, fun v l ev => ?_⟩⟩
  · cases e; exact Own.empty _ h.low.size
  · cases ev
    have := (h.one g e).2.1
    simp [Value.ownBlock]; omega
  · cases ev
    have := (h.res g e).1.lt
    simp [Value.ownBlock]; omega
theorem Beg6.mk3 {v v' : Value} {l l' : List Nat} {w3 : World} (h : Beg6 w w6 wz kb v9 v11 v13 vn key name A B C (some (v, l)) c z) (O : Own w3 w6.heap.size 5 v' (u8l l')) (hB : Below w6.heap.size w6 w3) (G : wz.grownBy w3 v.ownBlock) (H : v'.ownBlock = v.ownBlock ∨ v'.ownBlock = some wz.heap.size)
    (hs : BegA w3 kb v9 v11 v13 vn key name A B C) : Beg6 w w6 w3 kb v9 v11 v13 vn key name A B C (some (v', l')) c z := by
  refine ⟨hB, hs, fun x y e => by cases e; exact O, fun g e => ?_, fun g e => ?_⟩
  · obtain ⟨t1, t2, t3⟩ := h.one g e
    have ne := t3 v l rfl
    refine ⟨?_, Nat.lt_of_lt_of_le t2 G.size, fun x y ev => ?_⟩
    · obtain ⟨ao, cap, e1, c1, c2, hb⟩ := t1.ex
      refine ⟨ao, cap, e1, c1, c2, fun i hi => ?_⟩
      obtain ⟨b1, ob, oo, e2, hc⟩ := hb i hi
      refine ⟨b1, ob, oo, e2, ?_⟩
      have eb : ob = g := by
        injection e1 with e3
        rw [e2] at e3
        cases e3; rfl
      subst eb
      exact (World.cell?_of_block (w := wz) (a := ⟨ob, oo + i, none⟩) (G.block ob t2 (fun q => ne q.symm))).trans hc
    · cases ev
      rcases H with H | H
      · rw [H]; exact ne
      · rw [H]; intro q; cases q; omega
  · obtain ⟨t1, t2, t3⟩ := h.res g e
    have ne := t3 v l rfl
    refine ⟨t1.other (G.block g t1.lt (fun q => ne q.symm)), t2, fun x y ev => ?_⟩
    cases ev
    rcases H with H | H
    · rw [H]; exact ne
    · rw [H]; intro q; cases q; have := t1.lt; omega
theorem Beg6.mk4 (h : Beg6 w w6 wz kb v9 v11 v13 vn key name A B C o none z) : Beg6 w w6 (wz.alloc (.cells #[.int .u8 1] 5)) kb v9 v11 v13 vn key name A B C o (some wz.heap.size) z := by
  have h2 := h.more (w' := wz.alloc (.cells #[.int .u8 1] 5)) ((Below.refl _ _).alloc (Nat.le_refl _) _)
  refine ⟨h2.low, h2.st, h2.own, fun g e => ?_, h2.res⟩
  cases e
  refine ⟨lit_text (w := wz) (fr := (0, 0)) [1] (by decide) rfl, by simp, fun v l ev q => ?_⟩
  have := ((h.own v l ev).lt _ q).2
  omega
theorem Beg6.mk7 (h : Beg6 w w6 wz kb v9 v11 v13 vn key name A B C o c none) : Beg6 w w6 (wz.alloc (.cells (u8s (List.replicate 32 0)) 27)) kb v9 v11 v13 vn key name A B C o c (some wz.heap.size) := by
  have h2 := h.more (w' := wz.alloc (.cells (u8s (List.replicate 32 0)) 27)) ((Below.refl _ _).alloc (Nat.le_refl _) _)
  refine ⟨h2.low, h2.st, h2.own, h2.one, fun g e => ?_⟩
  cases e
  refine ⟨heap_alloc_new _ _, h.low.size, fun v l ev q => ?_⟩
  have := ((h.own v l ev).lt _ q).2
  omega
theorem BegA.grown {w3 : World} (h : BegA wz kb v9 v11 v13 vn key name A B C) (hB : Below w6.heap.size wz w3) (h6 : BegA w6 kb v9 v11 v13 vn key name A B C) (hl : Below w6.heap.size w6 wz) : BegA w3 kb v9 v11 v13 vn key name A B C :=
  h6.below (hl.trans hB)

theorem row_text' {w : World} {b ty : Nat} {t : List Nat} (h : RowB w b ty t) (hs : ∀ x ∈ t, x < 256) {n : Nat} (hn : t.length = n) : TextAt w (.slice (some ⟨b, 0, none⟩) n n) t := by
  subst hn
  refine ⟨some ⟨b, 0, none⟩, t.length, rfl, Nat.le_refl _, fun e => by simp at e, fun i hi => ⟨byt_lt hs i, b, 0, rfl, ?_⟩⟩
  rw [Nat.zero_add]
  exact h.cell (i := i) (x := byt t i) (by simp [byt, List.getD, hi])
/-- Every order ends alike: the end is shown once. -/
theorem once6 {P : Nat → Nat → Nat → Value → Value → World → Prop} {R : Nat → World → Prop} {G : Prop} (tree : (∀ g1 g4 g7 v3 v5 wn, R g7 wn → P g1 g4 g7 v3 v5 wn) → G) (leaf : ∀ g1 g4 g7 v3 v5 wn, R g7 wn → P g1 g4 g7 v3 v5 wn) : G := tree leaf
structure AskB (w : World) (g kb : Nat) (v9 v11 v13 vn : Value) (key name A B C M : List Nat) : Prop where
  st : BegA w kb v9 v11 v13 vn key name A B C
  m : RowB w g 27 M
theorem AskB.below {w w' : World} {g kb : Nat} {v9 v11 v13 vn : Value} {key name A B C M : List Nat} (h : AskB w g kb v9 v11 v13 vn key name A B C M) (hB : Below w.heap.size w w') : AskB w' g kb v9 v11 v13 vn key name A B C M :=
  ⟨h.st.below hB, h.m.below hB h.m.lt⟩

set_option maxRecDepth 100000 in
set_option maxHeartbeats 40000000 in
theorem hbegins_any (w : World) (key : List Nat) (kl : key.length = 32) (ks : ∀ x ∈ key, x < 256) (vn0 : Value) (name : List Nat) (hN : TextAt w vn0 name) (hnl : name.length < 9223372036854775808) (n : Int) (hn : (Lit.int .i64 n).wf = true) (m : Int) (hm : (Lit.int .i64 m).wf = true) :
    Calls Try.prog 8 #[.agg (u8s key), vn0, .int .i64 n, .int .i64 m] w fun e w' => e = .returned (.bool true) ∧ Below w.heap.size w w' := by
  obtain ⟨an, cn, rfl, hcn⟩ := hN.ex
  obtain ⟨nl, el⟩ : ∃ nl, nl = name.length := ⟨_, rfl⟩
  rw [← el] at hN hnl hcn ⊢
  have al := Lib.hid (fun x => alive03 x)
  have B0 : Below w.heap.size w (w.alloc (.cells (u8s key) 49)) := (Below.refl _ _).alloc (Nat.le_refl _) _
  replace kl := Lib.hid kl
  replace ks := Lib.hid ks
  replace hN := Lib.hid hN
  replace el := Lib.hid el
  replace hn := Lib.hid hn
  replace hm := Lib.hid hm
  replace B0 := Lib.hid B0
  replace hcn := Lib.hid hcn
  by_cases g0 : 300 < nl
  · have d0 : decide ((nl : Int) > 300) = true := decide_eq_true (by omega)
    go_enter Try.func8, Try.ntmps8
    go_wp2_with fail
    refine (al.out _).mono ?_
    rintro e w2 ⟨rfl, B2⟩
    have low := B0.out.trans (B2.mono B0.out.size)
    replace low := Lib.hid low
    go_wp2_with fail
    go_ret
    exact ⟨rfl, low.out⟩
  have d0 : decide ((nl : Int) > 300) = false := decide_eq_false (by omega)
  by_cases g1 : n < 0
  ·
    go_enter Try.func8, Try.ntmps8
    go_wp2_with fail
    refine (al.out _).mono ?_
    rintro e w2 ⟨rfl, B2⟩
    have low := B0.out.trans (B2.mono B0.out.size)
    replace low := Lib.hid low
    go_wp2_with fail
    go_ret
    exact ⟨rfl, low.out⟩
  by_cases g2 : m < n
  ·
    go_enter Try.func8, Try.ntmps8
    go_wp2_with fail
    refine (al.out _).mono ?_
    rintro e w2 ⟨rfl, B2⟩
    have low := B0.out.trans (B2.mono B0.out.size)
    replace low := Lib.hid low
    go_wp2_with fail
    go_ret
    exact ⟨rfl, low.out⟩
  by_cases g3 : 500 < m
  ·
    go_enter Try.func8, Try.ntmps8
    go_wp2_with fail
    refine (al.out _).mono ?_
    rintro e w2 ⟨rfl, B2⟩
    have low := B0.out.trans (B2.mono B0.out.size)
    replace low := Lib.hid low
    go_wp2_with fail
    go_ret
    exact ⟨rfl, low.out⟩
  obtain ⟨n, rfl⟩ : ∃ q : Nat, n = q := ⟨n.toNat, by omega⟩
  obtain ⟨m, rfl⟩ : ∃ q : Nat, m = q := ⟨m.toNat, by omega⟩
  have hnm : n ≤ m := by omega
  have hm5 : m ≤ 500 := by omega
  have iK := info_key key kl.out
  have Rk : RowB (w.alloc (.cells (u8s key) 49)) w.heap.size 49 key := heap_alloc_new _ _
  have ex := Lib.hid (fun (x : World) (q : Nat) (hq : q ≤ 500) (p : TextAt x (.slice an nl cn) name) => expand_any x key an nl cn name q kl.out ks.out p el.out.symm (by omega) (by omega))
  have e1 := ex.out _ n (by omega) (hN.out.below B0.out)
  obtain ⟨A, eA⟩ : ∃ A, A = expandOf key name n := ⟨_, rfl⟩
  obtain ⟨B, eB⟩ : ∃ B, B = expandOf key name m := ⟨_, rfl⟩
  obtain ⟨C, eC⟩ : ∃ C, C = expandOf key name 32 := ⟨_, rfl⟩
  rw [← eA] at e1
  replace Rk := Lib.hid Rk
  replace e1 := Lib.hid e1
  replace eA := Lib.hid eA
  replace eB := Lib.hid eB
  replace eC := Lib.hid eC
  go_enter Try.func8, Try.ntmps8
  go_wp2_with (refine wpList_load_b (by rfl) 49 (.tmp 4) rfl w.heap.size rfl 49 key ?hh _ Try.underlying49 rfl iK ?_; case hh => exact Rk.out)
  refine e1.out.mono ?_
  rintro e w1 ⟨a9, rfl, T1, B1⟩
  have b1 := B0.out.trans (B1.mono B0.out.size)
  have K1 := RowB.below Rk.out B1 Rk.out.lt
  have e2 := ex.out w1 m hm5 (hN.out.below b1)
  rw [← eB.out] at e2
  clear e1
  replace b1 := Lib.hid b1
  replace K1 := Lib.hid K1
  replace T1 := Lib.hid T1
  replace B1 := Lib.hid B1
  replace e2 := Lib.hid e2
  go_wp2_with (refine wpList_load_b (by rfl) 49 (.tmp 4) rfl w.heap.size rfl 49 key ?hh _ Try.underlying49 rfl iK ?_; case hh => exact K1.out)
  refine e2.out.mono ?_
  rintro e w2 ⟨a11, rfl, T2, B2⟩
  have b2 := b1.out.trans (B2.mono b1.out.size)
  have K2 := RowB.below K1.out B2 K1.out.lt
  have T12 := T1.out.below B2
  have e3 := ex.out w2 32 (by decide) (hN.out.below b2)
  rw [← eC.out] at e3
  simp only [show ((32 : Nat) : Int) = 32 from rfl] at e3
  clear e2
  replace b2 := Lib.hid b2
  replace K2 := Lib.hid K2
  replace T2 := Lib.hid T2
  replace T12 := Lib.hid T12
  replace B2 := Lib.hid B2
  replace e3 := Lib.hid e3
  go_wp2_with (refine wpList_load_b (by rfl) 49 (.tmp 4) rfl w.heap.size rfl 49 key ?hh _ Try.underlying49 rfl iK ?_; case hh => exact K2.out)
  refine e3.out.mono ?_
  rintro e w3 ⟨a13, rfl, T3, B3⟩
  have b3 := b2.out.trans (B3.mono b2.out.size)
  have S3 : BegA w3 w.heap.size (.slice a9 n n) (.slice a11 m m) (.slice a13 32 32) (.slice an nl cn) key name A B C := ⟨RowB.below K2.out B3 K2.out.lt, hN.out.below b3, T12.out.below B3, T2.out.below B3, T3⟩
  clear e3 K1 T1 B1 T2 T12 B2 B3 T3 K2 Rk
  have P0 := Beg6.begin (w := w) S3
  have nl3 : nl ≤ 300 := by omega
  replace b3 := Lib.hid b3
  replace S3 := Lib.hid S3
  replace P0 := Lib.hid P0
  go_wp2_with fail
  have hn3 : name.length ≤ 300 := by rw [← el.out]; exact nl3
  have eCM : C = macs key (name ++ [1]) := by rw [eC.out]; exact expandOf_first key name
  have iM : (Try.prog.info? 27).map (·.size) = some (u8s (macs key (name ++ [1]))).size := by
    have e : (Try.prog.info? 27).map (·.size) = some 32 := by kernel_rfl
    rw [len_macs]; exact e
  have zM : (u8s (List.replicate 32 0)).size = (u8s (macs key (name ++ [1]))).size := by rw [len_macs]; rfl
  have hcut := run_cut_h (P := Try.prog) Try.underlying22 infoU8s a11 m m n hnm (n : Int) rfl
  have lB : B.length = m := by rw [eB.out]; exact expandOf_length _ _ _
  have lC : C.length = 32 := by rw [eC.out]; exact expandOf_length _ _ _
  have sC : ∀ x ∈ C, x < 256 := by rw [eC.out]; exact expandOf_small _ _ _
  have tB : B.take n = A := by rw [eB.out, eA.out]; exact expandOf_take key name hnm
  have gB : ∀ g (w' : World), AskB w' g w.heap.size (.slice a9 n n) (.slice a11 m m) (.slice a13 32 32) (.slice an nl cn) key name A B C C → TextAt w' (.slice a11 n m) A := fun g w' h => by
    have h2 := TextAt.cutHi (hi := n) (by rw [lB]; exact h.st.b) (by rw [lB]; exact hnm)
    rwa [tB] at h2
  have gA : ∀ g (w' : World), AskB w' g w.heap.size (.slice a9 n n) (.slice a11 m m) (.slice a13 32 32) (.slice an nl cn) key name A B C C → TextAt w' (.slice a9 n n) A := fun g w' h => h.st.a
  have gC : ∀ g (w' : World), AskB w' g w.heap.size (.slice a9 n n) (.slice a11 m m) (.slice a13 32 32) (.slice an nl cn) key name A B C C → TextAt w' (.slice a13 32 32) C := fun g w' h => h.st.c
  have gM : ∀ g (w' : World), AskB w' g w.heap.size (.slice a9 n n) (.slice a11 m m) (.slice a13 32 32) (.slice an nl cn) key name A B C C → TextAt w' (.slice (some ⟨g, 0, none⟩) 32 32) C := fun g w' h => row_text' h.m sC lC
  replace eCM := Lib.hid eCM
  replace lB := Lib.hid lB
  replace lC := Lib.hid lC
  replace sC := Lib.hid sC
  replace tB := Lib.hid tB
  replace gB := Lib.hid gB
  replace gA := Lib.hid gA
  replace gC := Lib.hid gC
  replace gM := Lib.hid gM
  have sm1 : ∀ x ∈ name ++ [1], x < 256 := fun x hx => by
    rcases List.mem_append.1 hx with hx | hx
    · exact hN.out.small x hx
    · rw [List.mem_singleton.1 hx]; decide
  replace sm1 := Lib.hid sm1
  apply once6 (R := fun g wn => Hid (AskB wn.drew g w.heap.size (.slice a9 n n) (.slice a11 m m) (.slice a13 32 32) (.slice an nl cn) key name A B C C) ∧ Hid (Below w.heap.size w wn.drew))
  case tree =>
    intro leaf
    obtain ⟨wy, hwy⟩ : ∃ wy, wy = w3.drew := ⟨_, rfl⟩
    have hP := Lib.hid (P0.out.at hwy)
    refine wp_region_held_drew (S := (fun _ => True)) (by kernel_rfl) (trivial) (fun hHeld => ?_)
    refine held_take (i := 0) (v := ?_) rfl (by kernel_rfl) (by kernel_rfl) (by kernel_rfl) (fun _ _ _ h => h) (Or.inl ⟨by rfl, ?_⟩) (by assumption) ?_
    rotate_left
    · intro w hSw; (try dsimp only at hSw); go_simp; try with_reducible rfl
    try simp only [Act.put, List.setIfInBounds_toArray, List.set_cons_zero, List.set_cons_succ]
    refine held_take (i := 2) (v := ?_) rfl (by kernel_rfl) (by kernel_rfl) (by kernel_rfl) (fun _ _ _ h => h) (Or.inl ⟨by rfl, ?_⟩) (by assumption) ?_
    rotate_left
    · intro w hSw; (try dsimp only at hSw); go_simp; try with_reducible rfl
    try simp only [Act.put, List.setIfInBounds_toArray, List.set_cons_zero, List.set_cons_succ]
    rw [← hwy]
    clear hwy
    refine held_readies3 (i0 := 1) (i1 := 4) (i2 := 7) rfl rfl rfl (by kernel_rfl) (fun K hK => ?_) (fun K hK => ?_) (fun K hK => ?_)
    ·
      rw [if_pos (by rfl)]
      go_simp
      refine name_world2 (fun wn hwn => ?_)
      have hP2 := (hP.out.mk1).at hwn.out
      clear hwn hP
      generalize wy.heap.size = g1 at hP2 ⊢
      clear wy
      obtain ⟨wy, rfl⟩ : ∃ wy, wy = wn := ⟨_, rfl⟩
      have hP := Lib.hid hP2
      clear hP2
      refine hK.out _ _ (trivial) (fun hHeldN => ?_)
      clear hHeld hK K
      have hHeld := hHeldN
      clear hHeldN
      try simp only [Act.put, List.setIfInBounds_toArray, List.set_cons_zero, List.set_cons_succ]
      refine held_readies3 (i0 := 3) (i1 := 4) (i2 := 7) rfl rfl rfl (by kernel_rfl) (fun K hK => ?_) (fun K hK => ?_) (fun K hK => ?_)
      ·
        rw [if_pos (by rfl)]
        refine wp_append_t (.tmp 54) (.tmp 55) rfl w3.heap.size w3 _ [] rfl (hP.out.own _ _ rfl) hP.out.low hP.out.low.size (.slice an nl cn) name rfl hP.out.st.n (by simp only [List.length_nil]; omega) ?_
        intro v3 wn O3 L3 G3 H3
        rw [List.nil_append] at O3
        have hP2 := hP.out.mk3 O3.out L3.out G3.out H3.out (S3.out.below L3.out)
        clear hP O3 L3 G3 H3
        clear wy
        obtain ⟨wy, rfl⟩ : ∃ wy, wy = wn := ⟨_, rfl⟩
        have hP := Lib.hid hP2
        clear hP2
        refine hK.out _ _ (trivial) (fun hHeldN => ?_)
        clear hHeld hK K
        have hHeld := hHeldN
        clear hHeldN
        try simp only [Act.put, List.setIfInBounds_toArray, List.set_cons_zero, List.set_cons_succ]
        refine held_readies2 (i0 := 4) (i1 := 7) rfl rfl (by kernel_rfl) (fun K hK => ?_) (fun K hK => ?_)
        ·
          rw [if_pos (by rfl)]
          go_simp
          refine name_world2 (fun wn hwn => ?_)
          have hP2 := (hP.out.mk4).at hwn.out
          clear hwn hP
          generalize wy.heap.size = g4 at hP2 ⊢
          clear wy
          obtain ⟨wy, rfl⟩ : ∃ wy, wy = wn := ⟨_, rfl⟩
          have hP := Lib.hid hP2
          clear hP2
          refine hK.out _ _ (trivial) (fun hHeldN => ?_)
          clear hHeld hK K
          have hHeld := hHeldN
          clear hHeldN
          try simp only [Act.put, List.setIfInBounds_toArray, List.set_cons_zero, List.set_cons_succ]
          refine held_readies2 (i0 := 5) (i1 := 7) rfl rfl (by kernel_rfl) (fun K hK => ?_) (fun K hK => ?_)
          ·
            rw [if_pos (by rfl)]
            refine wp_append_t (.tmp 56) (.tmp 57) rfl w3.heap.size w3 _ name rfl (hP.out.own _ _ rfl) hP.out.low hP.out.low.size _ [1] rfl (hP.out.one _ rfl).1 (by simp only [List.length_cons, List.length_nil]; omega) ?_
            intro v5 wn O3 L3 G3 H3
            have hP2 := hP.out.mk3 O3.out L3.out G3.out H3.out (S3.out.below L3.out)
            clear hP O3 L3 G3 H3
            clear wy
            obtain ⟨wy, rfl⟩ : ∃ wy, wy = wn := ⟨_, rfl⟩
            have hP := Lib.hid hP2
            clear hP2
            refine hK.out _ _ (trivial) (fun hHeldN => ?_)
            clear hHeld hK K
            have hHeld := hHeldN
            clear hHeldN
            try simp only [Act.put, List.setIfInBounds_toArray, List.set_cons_zero, List.set_cons_succ]
            refine held_readies2 (i0 := 6) (i1 := 7) rfl rfl (by kernel_rfl) (fun K hK => ?_) (fun K hK => ?_)
            ·
              go_simp
              refine (mac_text _ _ _ key (name ++ [1]) (row_text' hP.out.st.k ks.out kl.out) ((hP.out.own _ _ rfl).text sm1.out) (by rw [kl.out]; decide) (by simp only [List.length_append, List.length_cons, List.length_nil]; omega)).mono ?_
              rintro e wn ⟨rfl, By⟩
              have hP2 := hP.out.more By
              clear hP By
              clear wy
              obtain ⟨wy, rfl⟩ : ∃ wy, wy = wn := ⟨_, rfl⟩
              have hP := Lib.hid hP2
              clear hP2
              refine hK.out _ _ (trivial) (fun hHeldN => ?_)
              clear hHeld hK K
              have hHeld := hHeldN
              clear hHeldN
              try simp only [Act.put, List.setIfInBounds_toArray, List.set_cons_zero, List.set_cons_succ]
              refine held_ready (i := 7) rfl (by kernel_rfl) (fun K hK => ?_)
              rw [if_pos (by rfl)]
              go_simp
              refine name_world2 (fun wn hwn => ?_)
              have hP2 := (hP.out.mk7).at hwn.out
              clear hwn hP
              generalize wy.heap.size = g7 at hP2 ⊢
              clear wy
              obtain ⟨wy, rfl⟩ : ∃ wy, wy = wn := ⟨_, rfl⟩
              have hP := Lib.hid hP2
              clear hP2
              refine hK.out _ _ (trivial) (fun hHeldN => ?_)
              clear hHeld hK K
              have hHeld := hHeldN
              clear hHeldN
              try simp only [Act.put, List.setIfInBounds_toArray, List.set_cons_zero, List.set_cons_succ]
              refine held_ready (i := 8) rfl (by kernel_rfl) (fun K hK => ?_)
              rw [if_pos (by rfl)]
              refine wp_store_s 27 (.tmp 15) (.tmp 59) rfl g7 (macs key (name ++ [1])) rfl rfl 27 _ (hP.out.res _ rfl).1 iM zM ?_
              intro wn R8 U8
              have L8 : Below w3.heap.size w3 wn := hP.out.low.trans (U8.out.below (fun k hk e => by have := (hP.out.res _ rfl).2.1; omega) hP.out.low.size)
              have A8 : AskB wn.drew g7 w.heap.size (.slice a9 n n) (.slice a11 m m) (.slice a13 32 32) (.slice an nl cn) key name A B C C := ⟨(S3.out.below L8).below (Below.refl _ _).drew, by have h := R8.out; rw [← eCM.out] at h; exact h⟩
              have low8 : Below w.heap.size w wn.drew := (b3.out.trans (L8.mono b3.out.size)).drew
              clear hP R8 U8 L8
              replace A8 := Lib.hid A8
              replace low8 := Lib.hid low8
              refine hK.out _ _ (trivial) (fun hHeldN => ?_)
              clear hHeld hK K
              have hHeld := hHeldN
              clear hHeldN
              try simp only [Act.put, List.setIfInBounds_toArray, List.set_cons_zero, List.set_cons_succ]
              refine wpAnyH_done (by kernel_rfl) ?_ _
              clear hHeld
              exact leaf g1 g4 g7 v3 v5 wn ⟨A8, low8⟩
            ·
              rw [if_pos (by rfl)]
              go_simp
              refine name_world2 (fun wn hwn => ?_)
              have hP2 := (hP.out.mk7).at hwn.out
              clear hwn hP
              generalize wy.heap.size = g7 at hP2 ⊢
              clear wy
              obtain ⟨wy, rfl⟩ : ∃ wy, wy = wn := ⟨_, rfl⟩
              have hP := Lib.hid hP2
              clear hP2
              refine hK.out _ _ (trivial) (fun hHeldN => ?_)
              clear hHeld hK K
              have hHeld := hHeldN
              clear hHeldN
              try simp only [Act.put, List.setIfInBounds_toArray, List.set_cons_zero, List.set_cons_succ]
              refine held_ready (i := 6) rfl (by kernel_rfl) (fun K hK => ?_)
              go_simp
              refine (mac_text _ _ _ key (name ++ [1]) (row_text' hP.out.st.k ks.out kl.out) ((hP.out.own _ _ rfl).text sm1.out) (by rw [kl.out]; decide) (by simp only [List.length_append, List.length_cons, List.length_nil]; omega)).mono ?_
              rintro e wn ⟨rfl, By⟩
              have hP2 := hP.out.more By
              clear hP By
              clear wy
              obtain ⟨wy, rfl⟩ : ∃ wy, wy = wn := ⟨_, rfl⟩
              have hP := Lib.hid hP2
              clear hP2
              refine hK.out _ _ (trivial) (fun hHeldN => ?_)
              clear hHeld hK K
              have hHeld := hHeldN
              clear hHeldN
              try simp only [Act.put, List.setIfInBounds_toArray, List.set_cons_zero, List.set_cons_succ]
              refine held_ready (i := 8) rfl (by kernel_rfl) (fun K hK => ?_)
              rw [if_pos (by rfl)]
              refine wp_store_s 27 (.tmp 15) (.tmp 59) rfl g7 (macs key (name ++ [1])) rfl rfl 27 _ (hP.out.res _ rfl).1 iM zM ?_
              intro wn R8 U8
              have L8 : Below w3.heap.size w3 wn := hP.out.low.trans (U8.out.below (fun k hk e => by have := (hP.out.res _ rfl).2.1; omega) hP.out.low.size)
              have A8 : AskB wn.drew g7 w.heap.size (.slice a9 n n) (.slice a11 m m) (.slice a13 32 32) (.slice an nl cn) key name A B C C := ⟨(S3.out.below L8).below (Below.refl _ _).drew, by have h := R8.out; rw [← eCM.out] at h; exact h⟩
              have low8 : Below w.heap.size w wn.drew := (b3.out.trans (L8.mono b3.out.size)).drew
              clear hP R8 U8 L8
              replace A8 := Lib.hid A8
              replace low8 := Lib.hid low8
              refine hK.out _ _ (trivial) (fun hHeldN => ?_)
              clear hHeld hK K
              have hHeld := hHeldN
              clear hHeldN
              try simp only [Act.put, List.setIfInBounds_toArray, List.set_cons_zero, List.set_cons_succ]
              refine wpAnyH_done (by kernel_rfl) ?_ _
              clear hHeld
              exact leaf g1 g4 g7 v3 v5 wn ⟨A8, low8⟩
          ·
            rw [if_pos (by rfl)]
            go_simp
            refine name_world2 (fun wn hwn => ?_)
            have hP2 := (hP.out.mk7).at hwn.out
            clear hwn hP
            generalize wy.heap.size = g7 at hP2 ⊢
            clear wy
            obtain ⟨wy, rfl⟩ : ∃ wy, wy = wn := ⟨_, rfl⟩
            have hP := Lib.hid hP2
            clear hP2
            refine hK.out _ _ (trivial) (fun hHeldN => ?_)
            clear hHeld hK K
            have hHeld := hHeldN
            clear hHeldN
            try simp only [Act.put, List.setIfInBounds_toArray, List.set_cons_zero, List.set_cons_succ]
            refine held_ready (i := 5) rfl (by kernel_rfl) (fun K hK => ?_)
            rw [if_pos (by rfl)]
            refine wp_append_t (.tmp 56) (.tmp 57) rfl w3.heap.size w3 _ name rfl (hP.out.own _ _ rfl) hP.out.low hP.out.low.size _ [1] rfl (hP.out.one _ rfl).1 (by simp only [List.length_cons, List.length_nil]; omega) ?_
            intro v5 wn O3 L3 G3 H3
            have hP2 := hP.out.mk3 O3.out L3.out G3.out H3.out (S3.out.below L3.out)
            clear hP O3 L3 G3 H3
            clear wy
            obtain ⟨wy, rfl⟩ : ∃ wy, wy = wn := ⟨_, rfl⟩
            have hP := Lib.hid hP2
            clear hP2
            refine hK.out _ _ (trivial) (fun hHeldN => ?_)
            clear hHeld hK K
            have hHeld := hHeldN
            clear hHeldN
            try simp only [Act.put, List.setIfInBounds_toArray, List.set_cons_zero, List.set_cons_succ]
            refine held_ready (i := 6) rfl (by kernel_rfl) (fun K hK => ?_)
            go_simp
            refine (mac_text _ _ _ key (name ++ [1]) (row_text' hP.out.st.k ks.out kl.out) ((hP.out.own _ _ rfl).text sm1.out) (by rw [kl.out]; decide) (by simp only [List.length_append, List.length_cons, List.length_nil]; omega)).mono ?_
            rintro e wn ⟨rfl, By⟩
            have hP2 := hP.out.more By
            clear hP By
            clear wy
            obtain ⟨wy, rfl⟩ : ∃ wy, wy = wn := ⟨_, rfl⟩
            have hP := Lib.hid hP2
            clear hP2
            refine hK.out _ _ (trivial) (fun hHeldN => ?_)
            clear hHeld hK K
            have hHeld := hHeldN
            clear hHeldN
            try simp only [Act.put, List.setIfInBounds_toArray, List.set_cons_zero, List.set_cons_succ]
            refine held_ready (i := 8) rfl (by kernel_rfl) (fun K hK => ?_)
            rw [if_pos (by rfl)]
            refine wp_store_s 27 (.tmp 15) (.tmp 59) rfl g7 (macs key (name ++ [1])) rfl rfl 27 _ (hP.out.res _ rfl).1 iM zM ?_
            intro wn R8 U8
            have L8 : Below w3.heap.size w3 wn := hP.out.low.trans (U8.out.below (fun k hk e => by have := (hP.out.res _ rfl).2.1; omega) hP.out.low.size)
            have A8 : AskB wn.drew g7 w.heap.size (.slice a9 n n) (.slice a11 m m) (.slice a13 32 32) (.slice an nl cn) key name A B C C := ⟨(S3.out.below L8).below (Below.refl _ _).drew, by have h := R8.out; rw [← eCM.out] at h; exact h⟩
            have low8 : Below w.heap.size w wn.drew := (b3.out.trans (L8.mono b3.out.size)).drew
            clear hP R8 U8 L8
            replace A8 := Lib.hid A8
            replace low8 := Lib.hid low8
            refine hK.out _ _ (trivial) (fun hHeldN => ?_)
            clear hHeld hK K
            have hHeld := hHeldN
            clear hHeldN
            try simp only [Act.put, List.setIfInBounds_toArray, List.set_cons_zero, List.set_cons_succ]
            refine wpAnyH_done (by kernel_rfl) ?_ _
            clear hHeld
            exact leaf g1 g4 g7 v3 v5 wn ⟨A8, low8⟩
        ·
          rw [if_pos (by rfl)]
          go_simp
          refine name_world2 (fun wn hwn => ?_)
          have hP2 := (hP.out.mk7).at hwn.out
          clear hwn hP
          generalize wy.heap.size = g7 at hP2 ⊢
          clear wy
          obtain ⟨wy, rfl⟩ : ∃ wy, wy = wn := ⟨_, rfl⟩
          have hP := Lib.hid hP2
          clear hP2
          refine hK.out _ _ (trivial) (fun hHeldN => ?_)
          clear hHeld hK K
          have hHeld := hHeldN
          clear hHeldN
          try simp only [Act.put, List.setIfInBounds_toArray, List.set_cons_zero, List.set_cons_succ]
          refine held_ready (i := 4) rfl (by kernel_rfl) (fun K hK => ?_)
          rw [if_pos (by rfl)]
          go_simp
          refine name_world2 (fun wn hwn => ?_)
          have hP2 := (hP.out.mk4).at hwn.out
          clear hwn hP
          generalize wy.heap.size = g4 at hP2 ⊢
          clear wy
          obtain ⟨wy, rfl⟩ : ∃ wy, wy = wn := ⟨_, rfl⟩
          have hP := Lib.hid hP2
          clear hP2
          refine hK.out _ _ (trivial) (fun hHeldN => ?_)
          clear hHeld hK K
          have hHeld := hHeldN
          clear hHeldN
          try simp only [Act.put, List.setIfInBounds_toArray, List.set_cons_zero, List.set_cons_succ]
          refine held_ready (i := 5) rfl (by kernel_rfl) (fun K hK => ?_)
          rw [if_pos (by rfl)]
          refine wp_append_t (.tmp 56) (.tmp 57) rfl w3.heap.size w3 _ name rfl (hP.out.own _ _ rfl) hP.out.low hP.out.low.size _ [1] rfl (hP.out.one _ rfl).1 (by simp only [List.length_cons, List.length_nil]; omega) ?_
          intro v5 wn O3 L3 G3 H3
          have hP2 := hP.out.mk3 O3.out L3.out G3.out H3.out (S3.out.below L3.out)
          clear hP O3 L3 G3 H3
          clear wy
          obtain ⟨wy, rfl⟩ : ∃ wy, wy = wn := ⟨_, rfl⟩
          have hP := Lib.hid hP2
          clear hP2
          refine hK.out _ _ (trivial) (fun hHeldN => ?_)
          clear hHeld hK K
          have hHeld := hHeldN
          clear hHeldN
          try simp only [Act.put, List.setIfInBounds_toArray, List.set_cons_zero, List.set_cons_succ]
          refine held_ready (i := 6) rfl (by kernel_rfl) (fun K hK => ?_)
          go_simp
          refine (mac_text _ _ _ key (name ++ [1]) (row_text' hP.out.st.k ks.out kl.out) ((hP.out.own _ _ rfl).text sm1.out) (by rw [kl.out]; decide) (by simp only [List.length_append, List.length_cons, List.length_nil]; omega)).mono ?_
          rintro e wn ⟨rfl, By⟩
          have hP2 := hP.out.more By
          clear hP By
          clear wy
          obtain ⟨wy, rfl⟩ : ∃ wy, wy = wn := ⟨_, rfl⟩
          have hP := Lib.hid hP2
          clear hP2
          refine hK.out _ _ (trivial) (fun hHeldN => ?_)
          clear hHeld hK K
          have hHeld := hHeldN
          clear hHeldN
          try simp only [Act.put, List.setIfInBounds_toArray, List.set_cons_zero, List.set_cons_succ]
          refine held_ready (i := 8) rfl (by kernel_rfl) (fun K hK => ?_)
          rw [if_pos (by rfl)]
          refine wp_store_s 27 (.tmp 15) (.tmp 59) rfl g7 (macs key (name ++ [1])) rfl rfl 27 _ (hP.out.res _ rfl).1 iM zM ?_
          intro wn R8 U8
          have L8 : Below w3.heap.size w3 wn := hP.out.low.trans (U8.out.below (fun k hk e => by have := (hP.out.res _ rfl).2.1; omega) hP.out.low.size)
          have A8 : AskB wn.drew g7 w.heap.size (.slice a9 n n) (.slice a11 m m) (.slice a13 32 32) (.slice an nl cn) key name A B C C := ⟨(S3.out.below L8).below (Below.refl _ _).drew, by have h := R8.out; rw [← eCM.out] at h; exact h⟩
          have low8 : Below w.heap.size w wn.drew := (b3.out.trans (L8.mono b3.out.size)).drew
          clear hP R8 U8 L8
          replace A8 := Lib.hid A8
          replace low8 := Lib.hid low8
          refine hK.out _ _ (trivial) (fun hHeldN => ?_)
          clear hHeld hK K
          have hHeld := hHeldN
          clear hHeldN
          try simp only [Act.put, List.setIfInBounds_toArray, List.set_cons_zero, List.set_cons_succ]
          refine wpAnyH_done (by kernel_rfl) ?_ _
          clear hHeld
          exact leaf g1 g4 g7 v3 v5 wn ⟨A8, low8⟩
      ·
        rw [if_pos (by rfl)]
        go_simp
        refine name_world2 (fun wn hwn => ?_)
        have hP2 := (hP.out.mk4).at hwn.out
        clear hwn hP
        generalize wy.heap.size = g4 at hP2 ⊢
        clear wy
        obtain ⟨wy, rfl⟩ : ∃ wy, wy = wn := ⟨_, rfl⟩
        have hP := Lib.hid hP2
        clear hP2
        refine hK.out _ _ (trivial) (fun hHeldN => ?_)
        clear hHeld hK K
        have hHeld := hHeldN
        clear hHeldN
        try simp only [Act.put, List.setIfInBounds_toArray, List.set_cons_zero, List.set_cons_succ]
        refine held_readies2 (i0 := 3) (i1 := 7) rfl rfl (by kernel_rfl) (fun K hK => ?_) (fun K hK => ?_)
        ·
          rw [if_pos (by rfl)]
          refine wp_append_t (.tmp 54) (.tmp 55) rfl w3.heap.size w3 _ [] rfl (hP.out.own _ _ rfl) hP.out.low hP.out.low.size (.slice an nl cn) name rfl hP.out.st.n (by simp only [List.length_nil]; omega) ?_
          intro v3 wn O3 L3 G3 H3
          rw [List.nil_append] at O3
          have hP2 := hP.out.mk3 O3.out L3.out G3.out H3.out (S3.out.below L3.out)
          clear hP O3 L3 G3 H3
          clear wy
          obtain ⟨wy, rfl⟩ : ∃ wy, wy = wn := ⟨_, rfl⟩
          have hP := Lib.hid hP2
          clear hP2
          refine hK.out _ _ (trivial) (fun hHeldN => ?_)
          clear hHeld hK K
          have hHeld := hHeldN
          clear hHeldN
          try simp only [Act.put, List.setIfInBounds_toArray, List.set_cons_zero, List.set_cons_succ]
          refine held_readies2 (i0 := 5) (i1 := 7) rfl rfl (by kernel_rfl) (fun K hK => ?_) (fun K hK => ?_)
          ·
            rw [if_pos (by rfl)]
            refine wp_append_t (.tmp 56) (.tmp 57) rfl w3.heap.size w3 _ name rfl (hP.out.own _ _ rfl) hP.out.low hP.out.low.size _ [1] rfl (hP.out.one _ rfl).1 (by simp only [List.length_cons, List.length_nil]; omega) ?_
            intro v5 wn O3 L3 G3 H3
            have hP2 := hP.out.mk3 O3.out L3.out G3.out H3.out (S3.out.below L3.out)
            clear hP O3 L3 G3 H3
            clear wy
            obtain ⟨wy, rfl⟩ : ∃ wy, wy = wn := ⟨_, rfl⟩
            have hP := Lib.hid hP2
            clear hP2
            refine hK.out _ _ (trivial) (fun hHeldN => ?_)
            clear hHeld hK K
            have hHeld := hHeldN
            clear hHeldN
            try simp only [Act.put, List.setIfInBounds_toArray, List.set_cons_zero, List.set_cons_succ]
            refine held_readies2 (i0 := 6) (i1 := 7) rfl rfl (by kernel_rfl) (fun K hK => ?_) (fun K hK => ?_)
            ·
              go_simp
              refine (mac_text _ _ _ key (name ++ [1]) (row_text' hP.out.st.k ks.out kl.out) ((hP.out.own _ _ rfl).text sm1.out) (by rw [kl.out]; decide) (by simp only [List.length_append, List.length_cons, List.length_nil]; omega)).mono ?_
              rintro e wn ⟨rfl, By⟩
              have hP2 := hP.out.more By
              clear hP By
              clear wy
              obtain ⟨wy, rfl⟩ : ∃ wy, wy = wn := ⟨_, rfl⟩
              have hP := Lib.hid hP2
              clear hP2
              refine hK.out _ _ (trivial) (fun hHeldN => ?_)
              clear hHeld hK K
              have hHeld := hHeldN
              clear hHeldN
              try simp only [Act.put, List.setIfInBounds_toArray, List.set_cons_zero, List.set_cons_succ]
              refine held_ready (i := 7) rfl (by kernel_rfl) (fun K hK => ?_)
              rw [if_pos (by rfl)]
              go_simp
              refine name_world2 (fun wn hwn => ?_)
              have hP2 := (hP.out.mk7).at hwn.out
              clear hwn hP
              generalize wy.heap.size = g7 at hP2 ⊢
              clear wy
              obtain ⟨wy, rfl⟩ : ∃ wy, wy = wn := ⟨_, rfl⟩
              have hP := Lib.hid hP2
              clear hP2
              refine hK.out _ _ (trivial) (fun hHeldN => ?_)
              clear hHeld hK K
              have hHeld := hHeldN
              clear hHeldN
              try simp only [Act.put, List.setIfInBounds_toArray, List.set_cons_zero, List.set_cons_succ]
              refine held_ready (i := 8) rfl (by kernel_rfl) (fun K hK => ?_)
              rw [if_pos (by rfl)]
              refine wp_store_s 27 (.tmp 15) (.tmp 59) rfl g7 (macs key (name ++ [1])) rfl rfl 27 _ (hP.out.res _ rfl).1 iM zM ?_
              intro wn R8 U8
              have L8 : Below w3.heap.size w3 wn := hP.out.low.trans (U8.out.below (fun k hk e => by have := (hP.out.res _ rfl).2.1; omega) hP.out.low.size)
              have A8 : AskB wn.drew g7 w.heap.size (.slice a9 n n) (.slice a11 m m) (.slice a13 32 32) (.slice an nl cn) key name A B C C := ⟨(S3.out.below L8).below (Below.refl _ _).drew, by have h := R8.out; rw [← eCM.out] at h; exact h⟩
              have low8 : Below w.heap.size w wn.drew := (b3.out.trans (L8.mono b3.out.size)).drew
              clear hP R8 U8 L8
              replace A8 := Lib.hid A8
              replace low8 := Lib.hid low8
              refine hK.out _ _ (trivial) (fun hHeldN => ?_)
              clear hHeld hK K
              have hHeld := hHeldN
              clear hHeldN
              try simp only [Act.put, List.setIfInBounds_toArray, List.set_cons_zero, List.set_cons_succ]
              refine wpAnyH_done (by kernel_rfl) ?_ _
              clear hHeld
              exact leaf g1 g4 g7 v3 v5 wn ⟨A8, low8⟩
            ·
              rw [if_pos (by rfl)]
              go_simp
              refine name_world2 (fun wn hwn => ?_)
              have hP2 := (hP.out.mk7).at hwn.out
              clear hwn hP
              generalize wy.heap.size = g7 at hP2 ⊢
              clear wy
              obtain ⟨wy, rfl⟩ : ∃ wy, wy = wn := ⟨_, rfl⟩
              have hP := Lib.hid hP2
              clear hP2
              refine hK.out _ _ (trivial) (fun hHeldN => ?_)
              clear hHeld hK K
              have hHeld := hHeldN
              clear hHeldN
              try simp only [Act.put, List.setIfInBounds_toArray, List.set_cons_zero, List.set_cons_succ]
              refine held_ready (i := 6) rfl (by kernel_rfl) (fun K hK => ?_)
              go_simp
              refine (mac_text _ _ _ key (name ++ [1]) (row_text' hP.out.st.k ks.out kl.out) ((hP.out.own _ _ rfl).text sm1.out) (by rw [kl.out]; decide) (by simp only [List.length_append, List.length_cons, List.length_nil]; omega)).mono ?_
              rintro e wn ⟨rfl, By⟩
              have hP2 := hP.out.more By
              clear hP By
              clear wy
              obtain ⟨wy, rfl⟩ : ∃ wy, wy = wn := ⟨_, rfl⟩
              have hP := Lib.hid hP2
              clear hP2
              refine hK.out _ _ (trivial) (fun hHeldN => ?_)
              clear hHeld hK K
              have hHeld := hHeldN
              clear hHeldN
              try simp only [Act.put, List.setIfInBounds_toArray, List.set_cons_zero, List.set_cons_succ]
              refine held_ready (i := 8) rfl (by kernel_rfl) (fun K hK => ?_)
              rw [if_pos (by rfl)]
              refine wp_store_s 27 (.tmp 15) (.tmp 59) rfl g7 (macs key (name ++ [1])) rfl rfl 27 _ (hP.out.res _ rfl).1 iM zM ?_
              intro wn R8 U8
              have L8 : Below w3.heap.size w3 wn := hP.out.low.trans (U8.out.below (fun k hk e => by have := (hP.out.res _ rfl).2.1; omega) hP.out.low.size)
              have A8 : AskB wn.drew g7 w.heap.size (.slice a9 n n) (.slice a11 m m) (.slice a13 32 32) (.slice an nl cn) key name A B C C := ⟨(S3.out.below L8).below (Below.refl _ _).drew, by have h := R8.out; rw [← eCM.out] at h; exact h⟩
              have low8 : Below w.heap.size w wn.drew := (b3.out.trans (L8.mono b3.out.size)).drew
              clear hP R8 U8 L8
              replace A8 := Lib.hid A8
              replace low8 := Lib.hid low8
              refine hK.out _ _ (trivial) (fun hHeldN => ?_)
              clear hHeld hK K
              have hHeld := hHeldN
              clear hHeldN
              try simp only [Act.put, List.setIfInBounds_toArray, List.set_cons_zero, List.set_cons_succ]
              refine wpAnyH_done (by kernel_rfl) ?_ _
              clear hHeld
              exact leaf g1 g4 g7 v3 v5 wn ⟨A8, low8⟩
          ·
            rw [if_pos (by rfl)]
            go_simp
            refine name_world2 (fun wn hwn => ?_)
            have hP2 := (hP.out.mk7).at hwn.out
            clear hwn hP
            generalize wy.heap.size = g7 at hP2 ⊢
            clear wy
            obtain ⟨wy, rfl⟩ : ∃ wy, wy = wn := ⟨_, rfl⟩
            have hP := Lib.hid hP2
            clear hP2
            refine hK.out _ _ (trivial) (fun hHeldN => ?_)
            clear hHeld hK K
            have hHeld := hHeldN
            clear hHeldN
            try simp only [Act.put, List.setIfInBounds_toArray, List.set_cons_zero, List.set_cons_succ]
            refine held_ready (i := 5) rfl (by kernel_rfl) (fun K hK => ?_)
            rw [if_pos (by rfl)]
            refine wp_append_t (.tmp 56) (.tmp 57) rfl w3.heap.size w3 _ name rfl (hP.out.own _ _ rfl) hP.out.low hP.out.low.size _ [1] rfl (hP.out.one _ rfl).1 (by simp only [List.length_cons, List.length_nil]; omega) ?_
            intro v5 wn O3 L3 G3 H3
            have hP2 := hP.out.mk3 O3.out L3.out G3.out H3.out (S3.out.below L3.out)
            clear hP O3 L3 G3 H3
            clear wy
            obtain ⟨wy, rfl⟩ : ∃ wy, wy = wn := ⟨_, rfl⟩
            have hP := Lib.hid hP2
            clear hP2
            refine hK.out _ _ (trivial) (fun hHeldN => ?_)
            clear hHeld hK K
            have hHeld := hHeldN
            clear hHeldN
            try simp only [Act.put, List.setIfInBounds_toArray, List.set_cons_zero, List.set_cons_succ]
            refine held_ready (i := 6) rfl (by kernel_rfl) (fun K hK => ?_)
            go_simp
            refine (mac_text _ _ _ key (name ++ [1]) (row_text' hP.out.st.k ks.out kl.out) ((hP.out.own _ _ rfl).text sm1.out) (by rw [kl.out]; decide) (by simp only [List.length_append, List.length_cons, List.length_nil]; omega)).mono ?_
            rintro e wn ⟨rfl, By⟩
            have hP2 := hP.out.more By
            clear hP By
            clear wy
            obtain ⟨wy, rfl⟩ : ∃ wy, wy = wn := ⟨_, rfl⟩
            have hP := Lib.hid hP2
            clear hP2
            refine hK.out _ _ (trivial) (fun hHeldN => ?_)
            clear hHeld hK K
            have hHeld := hHeldN
            clear hHeldN
            try simp only [Act.put, List.setIfInBounds_toArray, List.set_cons_zero, List.set_cons_succ]
            refine held_ready (i := 8) rfl (by kernel_rfl) (fun K hK => ?_)
            rw [if_pos (by rfl)]
            refine wp_store_s 27 (.tmp 15) (.tmp 59) rfl g7 (macs key (name ++ [1])) rfl rfl 27 _ (hP.out.res _ rfl).1 iM zM ?_
            intro wn R8 U8
            have L8 : Below w3.heap.size w3 wn := hP.out.low.trans (U8.out.below (fun k hk e => by have := (hP.out.res _ rfl).2.1; omega) hP.out.low.size)
            have A8 : AskB wn.drew g7 w.heap.size (.slice a9 n n) (.slice a11 m m) (.slice a13 32 32) (.slice an nl cn) key name A B C C := ⟨(S3.out.below L8).below (Below.refl _ _).drew, by have h := R8.out; rw [← eCM.out] at h; exact h⟩
            have low8 : Below w.heap.size w wn.drew := (b3.out.trans (L8.mono b3.out.size)).drew
            clear hP R8 U8 L8
            replace A8 := Lib.hid A8
            replace low8 := Lib.hid low8
            refine hK.out _ _ (trivial) (fun hHeldN => ?_)
            clear hHeld hK K
            have hHeld := hHeldN
            clear hHeldN
            try simp only [Act.put, List.setIfInBounds_toArray, List.set_cons_zero, List.set_cons_succ]
            refine wpAnyH_done (by kernel_rfl) ?_ _
            clear hHeld
            exact leaf g1 g4 g7 v3 v5 wn ⟨A8, low8⟩
        ·
          rw [if_pos (by rfl)]
          go_simp
          refine name_world2 (fun wn hwn => ?_)
          have hP2 := (hP.out.mk7).at hwn.out
          clear hwn hP
          generalize wy.heap.size = g7 at hP2 ⊢
          clear wy
          obtain ⟨wy, rfl⟩ : ∃ wy, wy = wn := ⟨_, rfl⟩
          have hP := Lib.hid hP2
          clear hP2
          refine hK.out _ _ (trivial) (fun hHeldN => ?_)
          clear hHeld hK K
          have hHeld := hHeldN
          clear hHeldN
          try simp only [Act.put, List.setIfInBounds_toArray, List.set_cons_zero, List.set_cons_succ]
          refine held_ready (i := 3) rfl (by kernel_rfl) (fun K hK => ?_)
          rw [if_pos (by rfl)]
          refine wp_append_t (.tmp 54) (.tmp 55) rfl w3.heap.size w3 _ [] rfl (hP.out.own _ _ rfl) hP.out.low hP.out.low.size (.slice an nl cn) name rfl hP.out.st.n (by simp only [List.length_nil]; omega) ?_
          intro v3 wn O3 L3 G3 H3
          rw [List.nil_append] at O3
          have hP2 := hP.out.mk3 O3.out L3.out G3.out H3.out (S3.out.below L3.out)
          clear hP O3 L3 G3 H3
          clear wy
          obtain ⟨wy, rfl⟩ : ∃ wy, wy = wn := ⟨_, rfl⟩
          have hP := Lib.hid hP2
          clear hP2
          refine hK.out _ _ (trivial) (fun hHeldN => ?_)
          clear hHeld hK K
          have hHeld := hHeldN
          clear hHeldN
          try simp only [Act.put, List.setIfInBounds_toArray, List.set_cons_zero, List.set_cons_succ]
          refine held_ready (i := 5) rfl (by kernel_rfl) (fun K hK => ?_)
          rw [if_pos (by rfl)]
          refine wp_append_t (.tmp 56) (.tmp 57) rfl w3.heap.size w3 _ name rfl (hP.out.own _ _ rfl) hP.out.low hP.out.low.size _ [1] rfl (hP.out.one _ rfl).1 (by simp only [List.length_cons, List.length_nil]; omega) ?_
          intro v5 wn O3 L3 G3 H3
          have hP2 := hP.out.mk3 O3.out L3.out G3.out H3.out (S3.out.below L3.out)
          clear hP O3 L3 G3 H3
          clear wy
          obtain ⟨wy, rfl⟩ : ∃ wy, wy = wn := ⟨_, rfl⟩
          have hP := Lib.hid hP2
          clear hP2
          refine hK.out _ _ (trivial) (fun hHeldN => ?_)
          clear hHeld hK K
          have hHeld := hHeldN
          clear hHeldN
          try simp only [Act.put, List.setIfInBounds_toArray, List.set_cons_zero, List.set_cons_succ]
          refine held_ready (i := 6) rfl (by kernel_rfl) (fun K hK => ?_)
          go_simp
          refine (mac_text _ _ _ key (name ++ [1]) (row_text' hP.out.st.k ks.out kl.out) ((hP.out.own _ _ rfl).text sm1.out) (by rw [kl.out]; decide) (by simp only [List.length_append, List.length_cons, List.length_nil]; omega)).mono ?_
          rintro e wn ⟨rfl, By⟩
          have hP2 := hP.out.more By
          clear hP By
          clear wy
          obtain ⟨wy, rfl⟩ : ∃ wy, wy = wn := ⟨_, rfl⟩
          have hP := Lib.hid hP2
          clear hP2
          refine hK.out _ _ (trivial) (fun hHeldN => ?_)
          clear hHeld hK K
          have hHeld := hHeldN
          clear hHeldN
          try simp only [Act.put, List.setIfInBounds_toArray, List.set_cons_zero, List.set_cons_succ]
          refine held_ready (i := 8) rfl (by kernel_rfl) (fun K hK => ?_)
          rw [if_pos (by rfl)]
          refine wp_store_s 27 (.tmp 15) (.tmp 59) rfl g7 (macs key (name ++ [1])) rfl rfl 27 _ (hP.out.res _ rfl).1 iM zM ?_
          intro wn R8 U8
          have L8 : Below w3.heap.size w3 wn := hP.out.low.trans (U8.out.below (fun k hk e => by have := (hP.out.res _ rfl).2.1; omega) hP.out.low.size)
          have A8 : AskB wn.drew g7 w.heap.size (.slice a9 n n) (.slice a11 m m) (.slice a13 32 32) (.slice an nl cn) key name A B C C := ⟨(S3.out.below L8).below (Below.refl _ _).drew, by have h := R8.out; rw [← eCM.out] at h; exact h⟩
          have low8 : Below w.heap.size w wn.drew := (b3.out.trans (L8.mono b3.out.size)).drew
          clear hP R8 U8 L8
          replace A8 := Lib.hid A8
          replace low8 := Lib.hid low8
          refine hK.out _ _ (trivial) (fun hHeldN => ?_)
          clear hHeld hK K
          have hHeld := hHeldN
          clear hHeldN
          try simp only [Act.put, List.setIfInBounds_toArray, List.set_cons_zero, List.set_cons_succ]
          refine wpAnyH_done (by kernel_rfl) ?_ _
          clear hHeld
          exact leaf g1 g4 g7 v3 v5 wn ⟨A8, low8⟩
      ·
        rw [if_pos (by rfl)]
        go_simp
        refine name_world2 (fun wn hwn => ?_)
        have hP2 := (hP.out.mk7).at hwn.out
        clear hwn hP
        generalize wy.heap.size = g7 at hP2 ⊢
        clear wy
        obtain ⟨wy, rfl⟩ : ∃ wy, wy = wn := ⟨_, rfl⟩
        have hP := Lib.hid hP2
        clear hP2
        refine hK.out _ _ (trivial) (fun hHeldN => ?_)
        clear hHeld hK K
        have hHeld := hHeldN
        clear hHeldN
        try simp only [Act.put, List.setIfInBounds_toArray, List.set_cons_zero, List.set_cons_succ]
        refine held_readies2 (i0 := 3) (i1 := 4) rfl rfl (by kernel_rfl) (fun K hK => ?_) (fun K hK => ?_)
        ·
          rw [if_pos (by rfl)]
          refine wp_append_t (.tmp 54) (.tmp 55) rfl w3.heap.size w3 _ [] rfl (hP.out.own _ _ rfl) hP.out.low hP.out.low.size (.slice an nl cn) name rfl hP.out.st.n (by simp only [List.length_nil]; omega) ?_
          intro v3 wn O3 L3 G3 H3
          rw [List.nil_append] at O3
          have hP2 := hP.out.mk3 O3.out L3.out G3.out H3.out (S3.out.below L3.out)
          clear hP O3 L3 G3 H3
          clear wy
          obtain ⟨wy, rfl⟩ : ∃ wy, wy = wn := ⟨_, rfl⟩
          have hP := Lib.hid hP2
          clear hP2
          refine hK.out _ _ (trivial) (fun hHeldN => ?_)
          clear hHeld hK K
          have hHeld := hHeldN
          clear hHeldN
          try simp only [Act.put, List.setIfInBounds_toArray, List.set_cons_zero, List.set_cons_succ]
          refine held_ready (i := 4) rfl (by kernel_rfl) (fun K hK => ?_)
          rw [if_pos (by rfl)]
          go_simp
          refine name_world2 (fun wn hwn => ?_)
          have hP2 := (hP.out.mk4).at hwn.out
          clear hwn hP
          generalize wy.heap.size = g4 at hP2 ⊢
          clear wy
          obtain ⟨wy, rfl⟩ : ∃ wy, wy = wn := ⟨_, rfl⟩
          have hP := Lib.hid hP2
          clear hP2
          refine hK.out _ _ (trivial) (fun hHeldN => ?_)
          clear hHeld hK K
          have hHeld := hHeldN
          clear hHeldN
          try simp only [Act.put, List.setIfInBounds_toArray, List.set_cons_zero, List.set_cons_succ]
          refine held_ready (i := 5) rfl (by kernel_rfl) (fun K hK => ?_)
          rw [if_pos (by rfl)]
          refine wp_append_t (.tmp 56) (.tmp 57) rfl w3.heap.size w3 _ name rfl (hP.out.own _ _ rfl) hP.out.low hP.out.low.size _ [1] rfl (hP.out.one _ rfl).1 (by simp only [List.length_cons, List.length_nil]; omega) ?_
          intro v5 wn O3 L3 G3 H3
          have hP2 := hP.out.mk3 O3.out L3.out G3.out H3.out (S3.out.below L3.out)
          clear hP O3 L3 G3 H3
          clear wy
          obtain ⟨wy, rfl⟩ : ∃ wy, wy = wn := ⟨_, rfl⟩
          have hP := Lib.hid hP2
          clear hP2
          refine hK.out _ _ (trivial) (fun hHeldN => ?_)
          clear hHeld hK K
          have hHeld := hHeldN
          clear hHeldN
          try simp only [Act.put, List.setIfInBounds_toArray, List.set_cons_zero, List.set_cons_succ]
          refine held_ready (i := 6) rfl (by kernel_rfl) (fun K hK => ?_)
          go_simp
          refine (mac_text _ _ _ key (name ++ [1]) (row_text' hP.out.st.k ks.out kl.out) ((hP.out.own _ _ rfl).text sm1.out) (by rw [kl.out]; decide) (by simp only [List.length_append, List.length_cons, List.length_nil]; omega)).mono ?_
          rintro e wn ⟨rfl, By⟩
          have hP2 := hP.out.more By
          clear hP By
          clear wy
          obtain ⟨wy, rfl⟩ : ∃ wy, wy = wn := ⟨_, rfl⟩
          have hP := Lib.hid hP2
          clear hP2
          refine hK.out _ _ (trivial) (fun hHeldN => ?_)
          clear hHeld hK K
          have hHeld := hHeldN
          clear hHeldN
          try simp only [Act.put, List.setIfInBounds_toArray, List.set_cons_zero, List.set_cons_succ]
          refine held_ready (i := 8) rfl (by kernel_rfl) (fun K hK => ?_)
          rw [if_pos (by rfl)]
          refine wp_store_s 27 (.tmp 15) (.tmp 59) rfl g7 (macs key (name ++ [1])) rfl rfl 27 _ (hP.out.res _ rfl).1 iM zM ?_
          intro wn R8 U8
          have L8 : Below w3.heap.size w3 wn := hP.out.low.trans (U8.out.below (fun k hk e => by have := (hP.out.res _ rfl).2.1; omega) hP.out.low.size)
          have A8 : AskB wn.drew g7 w.heap.size (.slice a9 n n) (.slice a11 m m) (.slice a13 32 32) (.slice an nl cn) key name A B C C := ⟨(S3.out.below L8).below (Below.refl _ _).drew, by have h := R8.out; rw [← eCM.out] at h; exact h⟩
          have low8 : Below w.heap.size w wn.drew := (b3.out.trans (L8.mono b3.out.size)).drew
          clear hP R8 U8 L8
          replace A8 := Lib.hid A8
          replace low8 := Lib.hid low8
          refine hK.out _ _ (trivial) (fun hHeldN => ?_)
          clear hHeld hK K
          have hHeld := hHeldN
          clear hHeldN
          try simp only [Act.put, List.setIfInBounds_toArray, List.set_cons_zero, List.set_cons_succ]
          refine wpAnyH_done (by kernel_rfl) ?_ _
          clear hHeld
          exact leaf g1 g4 g7 v3 v5 wn ⟨A8, low8⟩
        ·
          rw [if_pos (by rfl)]
          go_simp
          refine name_world2 (fun wn hwn => ?_)
          have hP2 := (hP.out.mk4).at hwn.out
          clear hwn hP
          generalize wy.heap.size = g4 at hP2 ⊢
          clear wy
          obtain ⟨wy, rfl⟩ : ∃ wy, wy = wn := ⟨_, rfl⟩
          have hP := Lib.hid hP2
          clear hP2
          refine hK.out _ _ (trivial) (fun hHeldN => ?_)
          clear hHeld hK K
          have hHeld := hHeldN
          clear hHeldN
          try simp only [Act.put, List.setIfInBounds_toArray, List.set_cons_zero, List.set_cons_succ]
          refine held_ready (i := 3) rfl (by kernel_rfl) (fun K hK => ?_)
          rw [if_pos (by rfl)]
          refine wp_append_t (.tmp 54) (.tmp 55) rfl w3.heap.size w3 _ [] rfl (hP.out.own _ _ rfl) hP.out.low hP.out.low.size (.slice an nl cn) name rfl hP.out.st.n (by simp only [List.length_nil]; omega) ?_
          intro v3 wn O3 L3 G3 H3
          rw [List.nil_append] at O3
          have hP2 := hP.out.mk3 O3.out L3.out G3.out H3.out (S3.out.below L3.out)
          clear hP O3 L3 G3 H3
          clear wy
          obtain ⟨wy, rfl⟩ : ∃ wy, wy = wn := ⟨_, rfl⟩
          have hP := Lib.hid hP2
          clear hP2
          refine hK.out _ _ (trivial) (fun hHeldN => ?_)
          clear hHeld hK K
          have hHeld := hHeldN
          clear hHeldN
          try simp only [Act.put, List.setIfInBounds_toArray, List.set_cons_zero, List.set_cons_succ]
          refine held_ready (i := 5) rfl (by kernel_rfl) (fun K hK => ?_)
          rw [if_pos (by rfl)]
          refine wp_append_t (.tmp 56) (.tmp 57) rfl w3.heap.size w3 _ name rfl (hP.out.own _ _ rfl) hP.out.low hP.out.low.size _ [1] rfl (hP.out.one _ rfl).1 (by simp only [List.length_cons, List.length_nil]; omega) ?_
          intro v5 wn O3 L3 G3 H3
          have hP2 := hP.out.mk3 O3.out L3.out G3.out H3.out (S3.out.below L3.out)
          clear hP O3 L3 G3 H3
          clear wy
          obtain ⟨wy, rfl⟩ : ∃ wy, wy = wn := ⟨_, rfl⟩
          have hP := Lib.hid hP2
          clear hP2
          refine hK.out _ _ (trivial) (fun hHeldN => ?_)
          clear hHeld hK K
          have hHeld := hHeldN
          clear hHeldN
          try simp only [Act.put, List.setIfInBounds_toArray, List.set_cons_zero, List.set_cons_succ]
          refine held_ready (i := 6) rfl (by kernel_rfl) (fun K hK => ?_)
          go_simp
          refine (mac_text _ _ _ key (name ++ [1]) (row_text' hP.out.st.k ks.out kl.out) ((hP.out.own _ _ rfl).text sm1.out) (by rw [kl.out]; decide) (by simp only [List.length_append, List.length_cons, List.length_nil]; omega)).mono ?_
          rintro e wn ⟨rfl, By⟩
          have hP2 := hP.out.more By
          clear hP By
          clear wy
          obtain ⟨wy, rfl⟩ : ∃ wy, wy = wn := ⟨_, rfl⟩
          have hP := Lib.hid hP2
          clear hP2
          refine hK.out _ _ (trivial) (fun hHeldN => ?_)
          clear hHeld hK K
          have hHeld := hHeldN
          clear hHeldN
          try simp only [Act.put, List.setIfInBounds_toArray, List.set_cons_zero, List.set_cons_succ]
          refine held_ready (i := 8) rfl (by kernel_rfl) (fun K hK => ?_)
          rw [if_pos (by rfl)]
          refine wp_store_s 27 (.tmp 15) (.tmp 59) rfl g7 (macs key (name ++ [1])) rfl rfl 27 _ (hP.out.res _ rfl).1 iM zM ?_
          intro wn R8 U8
          have L8 : Below w3.heap.size w3 wn := hP.out.low.trans (U8.out.below (fun k hk e => by have := (hP.out.res _ rfl).2.1; omega) hP.out.low.size)
          have A8 : AskB wn.drew g7 w.heap.size (.slice a9 n n) (.slice a11 m m) (.slice a13 32 32) (.slice an nl cn) key name A B C C := ⟨(S3.out.below L8).below (Below.refl _ _).drew, by have h := R8.out; rw [← eCM.out] at h; exact h⟩
          have low8 : Below w.heap.size w wn.drew := (b3.out.trans (L8.mono b3.out.size)).drew
          clear hP R8 U8 L8
          replace A8 := Lib.hid A8
          replace low8 := Lib.hid low8
          refine hK.out _ _ (trivial) (fun hHeldN => ?_)
          clear hHeld hK K
          have hHeld := hHeldN
          clear hHeldN
          try simp only [Act.put, List.setIfInBounds_toArray, List.set_cons_zero, List.set_cons_succ]
          refine wpAnyH_done (by kernel_rfl) ?_ _
          clear hHeld
          exact leaf g1 g4 g7 v3 v5 wn ⟨A8, low8⟩
    ·
      rw [if_pos (by rfl)]
      go_simp
      refine name_world2 (fun wn hwn => ?_)
      have hP2 := (hP.out.mk4).at hwn.out
      clear hwn hP
      generalize wy.heap.size = g4 at hP2 ⊢
      clear wy
      obtain ⟨wy, rfl⟩ : ∃ wy, wy = wn := ⟨_, rfl⟩
      have hP := Lib.hid hP2
      clear hP2
      refine hK.out _ _ (trivial) (fun hHeldN => ?_)
      clear hHeld hK K
      have hHeld := hHeldN
      clear hHeldN
      try simp only [Act.put, List.setIfInBounds_toArray, List.set_cons_zero, List.set_cons_succ]
      refine held_readies2 (i0 := 1) (i1 := 7) rfl rfl (by kernel_rfl) (fun K hK => ?_) (fun K hK => ?_)
      ·
        rw [if_pos (by rfl)]
        go_simp
        refine name_world2 (fun wn hwn => ?_)
        have hP2 := (hP.out.mk1).at hwn.out
        clear hwn hP
        generalize wy.heap.size = g1 at hP2 ⊢
        clear wy
        obtain ⟨wy, rfl⟩ : ∃ wy, wy = wn := ⟨_, rfl⟩
        have hP := Lib.hid hP2
        clear hP2
        refine hK.out _ _ (trivial) (fun hHeldN => ?_)
        clear hHeld hK K
        have hHeld := hHeldN
        clear hHeldN
        try simp only [Act.put, List.setIfInBounds_toArray, List.set_cons_zero, List.set_cons_succ]
        refine held_readies2 (i0 := 3) (i1 := 7) rfl rfl (by kernel_rfl) (fun K hK => ?_) (fun K hK => ?_)
        ·
          rw [if_pos (by rfl)]
          refine wp_append_t (.tmp 54) (.tmp 55) rfl w3.heap.size w3 _ [] rfl (hP.out.own _ _ rfl) hP.out.low hP.out.low.size (.slice an nl cn) name rfl hP.out.st.n (by simp only [List.length_nil]; omega) ?_
          intro v3 wn O3 L3 G3 H3
          rw [List.nil_append] at O3
          have hP2 := hP.out.mk3 O3.out L3.out G3.out H3.out (S3.out.below L3.out)
          clear hP O3 L3 G3 H3
          clear wy
          obtain ⟨wy, rfl⟩ : ∃ wy, wy = wn := ⟨_, rfl⟩
          have hP := Lib.hid hP2
          clear hP2
          refine hK.out _ _ (trivial) (fun hHeldN => ?_)
          clear hHeld hK K
          have hHeld := hHeldN
          clear hHeldN
          try simp only [Act.put, List.setIfInBounds_toArray, List.set_cons_zero, List.set_cons_succ]
          refine held_readies2 (i0 := 5) (i1 := 7) rfl rfl (by kernel_rfl) (fun K hK => ?_) (fun K hK => ?_)
          ·
            rw [if_pos (by rfl)]
            refine wp_append_t (.tmp 56) (.tmp 57) rfl w3.heap.size w3 _ name rfl (hP.out.own _ _ rfl) hP.out.low hP.out.low.size _ [1] rfl (hP.out.one _ rfl).1 (by simp only [List.length_cons, List.length_nil]; omega) ?_
            intro v5 wn O3 L3 G3 H3
            have hP2 := hP.out.mk3 O3.out L3.out G3.out H3.out (S3.out.below L3.out)
            clear hP O3 L3 G3 H3
            clear wy
            obtain ⟨wy, rfl⟩ : ∃ wy, wy = wn := ⟨_, rfl⟩
            have hP := Lib.hid hP2
            clear hP2
            refine hK.out _ _ (trivial) (fun hHeldN => ?_)
            clear hHeld hK K
            have hHeld := hHeldN
            clear hHeldN
            try simp only [Act.put, List.setIfInBounds_toArray, List.set_cons_zero, List.set_cons_succ]
            refine held_readies2 (i0 := 6) (i1 := 7) rfl rfl (by kernel_rfl) (fun K hK => ?_) (fun K hK => ?_)
            ·
              go_simp
              refine (mac_text _ _ _ key (name ++ [1]) (row_text' hP.out.st.k ks.out kl.out) ((hP.out.own _ _ rfl).text sm1.out) (by rw [kl.out]; decide) (by simp only [List.length_append, List.length_cons, List.length_nil]; omega)).mono ?_
              rintro e wn ⟨rfl, By⟩
              have hP2 := hP.out.more By
              clear hP By
              clear wy
              obtain ⟨wy, rfl⟩ : ∃ wy, wy = wn := ⟨_, rfl⟩
              have hP := Lib.hid hP2
              clear hP2
              refine hK.out _ _ (trivial) (fun hHeldN => ?_)
              clear hHeld hK K
              have hHeld := hHeldN
              clear hHeldN
              try simp only [Act.put, List.setIfInBounds_toArray, List.set_cons_zero, List.set_cons_succ]
              refine held_ready (i := 7) rfl (by kernel_rfl) (fun K hK => ?_)
              rw [if_pos (by rfl)]
              go_simp
              refine name_world2 (fun wn hwn => ?_)
              have hP2 := (hP.out.mk7).at hwn.out
              clear hwn hP
              generalize wy.heap.size = g7 at hP2 ⊢
              clear wy
              obtain ⟨wy, rfl⟩ : ∃ wy, wy = wn := ⟨_, rfl⟩
              have hP := Lib.hid hP2
              clear hP2
              refine hK.out _ _ (trivial) (fun hHeldN => ?_)
              clear hHeld hK K
              have hHeld := hHeldN
              clear hHeldN
              try simp only [Act.put, List.setIfInBounds_toArray, List.set_cons_zero, List.set_cons_succ]
              refine held_ready (i := 8) rfl (by kernel_rfl) (fun K hK => ?_)
              rw [if_pos (by rfl)]
              refine wp_store_s 27 (.tmp 15) (.tmp 59) rfl g7 (macs key (name ++ [1])) rfl rfl 27 _ (hP.out.res _ rfl).1 iM zM ?_
              intro wn R8 U8
              have L8 : Below w3.heap.size w3 wn := hP.out.low.trans (U8.out.below (fun k hk e => by have := (hP.out.res _ rfl).2.1; omega) hP.out.low.size)
              have A8 : AskB wn.drew g7 w.heap.size (.slice a9 n n) (.slice a11 m m) (.slice a13 32 32) (.slice an nl cn) key name A B C C := ⟨(S3.out.below L8).below (Below.refl _ _).drew, by have h := R8.out; rw [← eCM.out] at h; exact h⟩
              have low8 : Below w.heap.size w wn.drew := (b3.out.trans (L8.mono b3.out.size)).drew
              clear hP R8 U8 L8
              replace A8 := Lib.hid A8
              replace low8 := Lib.hid low8
              refine hK.out _ _ (trivial) (fun hHeldN => ?_)
              clear hHeld hK K
              have hHeld := hHeldN
              clear hHeldN
              try simp only [Act.put, List.setIfInBounds_toArray, List.set_cons_zero, List.set_cons_succ]
              refine wpAnyH_done (by kernel_rfl) ?_ _
              clear hHeld
              exact leaf g1 g4 g7 v3 v5 wn ⟨A8, low8⟩
            ·
              rw [if_pos (by rfl)]
              go_simp
              refine name_world2 (fun wn hwn => ?_)
              have hP2 := (hP.out.mk7).at hwn.out
              clear hwn hP
              generalize wy.heap.size = g7 at hP2 ⊢
              clear wy
              obtain ⟨wy, rfl⟩ : ∃ wy, wy = wn := ⟨_, rfl⟩
              have hP := Lib.hid hP2
              clear hP2
              refine hK.out _ _ (trivial) (fun hHeldN => ?_)
              clear hHeld hK K
              have hHeld := hHeldN
              clear hHeldN
              try simp only [Act.put, List.setIfInBounds_toArray, List.set_cons_zero, List.set_cons_succ]
              refine held_ready (i := 6) rfl (by kernel_rfl) (fun K hK => ?_)
              go_simp
              refine (mac_text _ _ _ key (name ++ [1]) (row_text' hP.out.st.k ks.out kl.out) ((hP.out.own _ _ rfl).text sm1.out) (by rw [kl.out]; decide) (by simp only [List.length_append, List.length_cons, List.length_nil]; omega)).mono ?_
              rintro e wn ⟨rfl, By⟩
              have hP2 := hP.out.more By
              clear hP By
              clear wy
              obtain ⟨wy, rfl⟩ : ∃ wy, wy = wn := ⟨_, rfl⟩
              have hP := Lib.hid hP2
              clear hP2
              refine hK.out _ _ (trivial) (fun hHeldN => ?_)
              clear hHeld hK K
              have hHeld := hHeldN
              clear hHeldN
              try simp only [Act.put, List.setIfInBounds_toArray, List.set_cons_zero, List.set_cons_succ]
              refine held_ready (i := 8) rfl (by kernel_rfl) (fun K hK => ?_)
              rw [if_pos (by rfl)]
              refine wp_store_s 27 (.tmp 15) (.tmp 59) rfl g7 (macs key (name ++ [1])) rfl rfl 27 _ (hP.out.res _ rfl).1 iM zM ?_
              intro wn R8 U8
              have L8 : Below w3.heap.size w3 wn := hP.out.low.trans (U8.out.below (fun k hk e => by have := (hP.out.res _ rfl).2.1; omega) hP.out.low.size)
              have A8 : AskB wn.drew g7 w.heap.size (.slice a9 n n) (.slice a11 m m) (.slice a13 32 32) (.slice an nl cn) key name A B C C := ⟨(S3.out.below L8).below (Below.refl _ _).drew, by have h := R8.out; rw [← eCM.out] at h; exact h⟩
              have low8 : Below w.heap.size w wn.drew := (b3.out.trans (L8.mono b3.out.size)).drew
              clear hP R8 U8 L8
              replace A8 := Lib.hid A8
              replace low8 := Lib.hid low8
              refine hK.out _ _ (trivial) (fun hHeldN => ?_)
              clear hHeld hK K
              have hHeld := hHeldN
              clear hHeldN
              try simp only [Act.put, List.setIfInBounds_toArray, List.set_cons_zero, List.set_cons_succ]
              refine wpAnyH_done (by kernel_rfl) ?_ _
              clear hHeld
              exact leaf g1 g4 g7 v3 v5 wn ⟨A8, low8⟩
          ·
            rw [if_pos (by rfl)]
            go_simp
            refine name_world2 (fun wn hwn => ?_)
            have hP2 := (hP.out.mk7).at hwn.out
            clear hwn hP
            generalize wy.heap.size = g7 at hP2 ⊢
            clear wy
            obtain ⟨wy, rfl⟩ : ∃ wy, wy = wn := ⟨_, rfl⟩
            have hP := Lib.hid hP2
            clear hP2
            refine hK.out _ _ (trivial) (fun hHeldN => ?_)
            clear hHeld hK K
            have hHeld := hHeldN
            clear hHeldN
            try simp only [Act.put, List.setIfInBounds_toArray, List.set_cons_zero, List.set_cons_succ]
            refine held_ready (i := 5) rfl (by kernel_rfl) (fun K hK => ?_)
            rw [if_pos (by rfl)]
            refine wp_append_t (.tmp 56) (.tmp 57) rfl w3.heap.size w3 _ name rfl (hP.out.own _ _ rfl) hP.out.low hP.out.low.size _ [1] rfl (hP.out.one _ rfl).1 (by simp only [List.length_cons, List.length_nil]; omega) ?_
            intro v5 wn O3 L3 G3 H3
            have hP2 := hP.out.mk3 O3.out L3.out G3.out H3.out (S3.out.below L3.out)
            clear hP O3 L3 G3 H3
            clear wy
            obtain ⟨wy, rfl⟩ : ∃ wy, wy = wn := ⟨_, rfl⟩
            have hP := Lib.hid hP2
            clear hP2
            refine hK.out _ _ (trivial) (fun hHeldN => ?_)
            clear hHeld hK K
            have hHeld := hHeldN
            clear hHeldN
            try simp only [Act.put, List.setIfInBounds_toArray, List.set_cons_zero, List.set_cons_succ]
            refine held_ready (i := 6) rfl (by kernel_rfl) (fun K hK => ?_)
            go_simp
            refine (mac_text _ _ _ key (name ++ [1]) (row_text' hP.out.st.k ks.out kl.out) ((hP.out.own _ _ rfl).text sm1.out) (by rw [kl.out]; decide) (by simp only [List.length_append, List.length_cons, List.length_nil]; omega)).mono ?_
            rintro e wn ⟨rfl, By⟩
            have hP2 := hP.out.more By
            clear hP By
            clear wy
            obtain ⟨wy, rfl⟩ : ∃ wy, wy = wn := ⟨_, rfl⟩
            have hP := Lib.hid hP2
            clear hP2
            refine hK.out _ _ (trivial) (fun hHeldN => ?_)
            clear hHeld hK K
            have hHeld := hHeldN
            clear hHeldN
            try simp only [Act.put, List.setIfInBounds_toArray, List.set_cons_zero, List.set_cons_succ]
            refine held_ready (i := 8) rfl (by kernel_rfl) (fun K hK => ?_)
            rw [if_pos (by rfl)]
            refine wp_store_s 27 (.tmp 15) (.tmp 59) rfl g7 (macs key (name ++ [1])) rfl rfl 27 _ (hP.out.res _ rfl).1 iM zM ?_
            intro wn R8 U8
            have L8 : Below w3.heap.size w3 wn := hP.out.low.trans (U8.out.below (fun k hk e => by have := (hP.out.res _ rfl).2.1; omega) hP.out.low.size)
            have A8 : AskB wn.drew g7 w.heap.size (.slice a9 n n) (.slice a11 m m) (.slice a13 32 32) (.slice an nl cn) key name A B C C := ⟨(S3.out.below L8).below (Below.refl _ _).drew, by have h := R8.out; rw [← eCM.out] at h; exact h⟩
            have low8 : Below w.heap.size w wn.drew := (b3.out.trans (L8.mono b3.out.size)).drew
            clear hP R8 U8 L8
            replace A8 := Lib.hid A8
            replace low8 := Lib.hid low8
            refine hK.out _ _ (trivial) (fun hHeldN => ?_)
            clear hHeld hK K
            have hHeld := hHeldN
            clear hHeldN
            try simp only [Act.put, List.setIfInBounds_toArray, List.set_cons_zero, List.set_cons_succ]
            refine wpAnyH_done (by kernel_rfl) ?_ _
            clear hHeld
            exact leaf g1 g4 g7 v3 v5 wn ⟨A8, low8⟩
        ·
          rw [if_pos (by rfl)]
          go_simp
          refine name_world2 (fun wn hwn => ?_)
          have hP2 := (hP.out.mk7).at hwn.out
          clear hwn hP
          generalize wy.heap.size = g7 at hP2 ⊢
          clear wy
          obtain ⟨wy, rfl⟩ : ∃ wy, wy = wn := ⟨_, rfl⟩
          have hP := Lib.hid hP2
          clear hP2
          refine hK.out _ _ (trivial) (fun hHeldN => ?_)
          clear hHeld hK K
          have hHeld := hHeldN
          clear hHeldN
          try simp only [Act.put, List.setIfInBounds_toArray, List.set_cons_zero, List.set_cons_succ]
          refine held_ready (i := 3) rfl (by kernel_rfl) (fun K hK => ?_)
          rw [if_pos (by rfl)]
          refine wp_append_t (.tmp 54) (.tmp 55) rfl w3.heap.size w3 _ [] rfl (hP.out.own _ _ rfl) hP.out.low hP.out.low.size (.slice an nl cn) name rfl hP.out.st.n (by simp only [List.length_nil]; omega) ?_
          intro v3 wn O3 L3 G3 H3
          rw [List.nil_append] at O3
          have hP2 := hP.out.mk3 O3.out L3.out G3.out H3.out (S3.out.below L3.out)
          clear hP O3 L3 G3 H3
          clear wy
          obtain ⟨wy, rfl⟩ : ∃ wy, wy = wn := ⟨_, rfl⟩
          have hP := Lib.hid hP2
          clear hP2
          refine hK.out _ _ (trivial) (fun hHeldN => ?_)
          clear hHeld hK K
          have hHeld := hHeldN
          clear hHeldN
          try simp only [Act.put, List.setIfInBounds_toArray, List.set_cons_zero, List.set_cons_succ]
          refine held_ready (i := 5) rfl (by kernel_rfl) (fun K hK => ?_)
          rw [if_pos (by rfl)]
          refine wp_append_t (.tmp 56) (.tmp 57) rfl w3.heap.size w3 _ name rfl (hP.out.own _ _ rfl) hP.out.low hP.out.low.size _ [1] rfl (hP.out.one _ rfl).1 (by simp only [List.length_cons, List.length_nil]; omega) ?_
          intro v5 wn O3 L3 G3 H3
          have hP2 := hP.out.mk3 O3.out L3.out G3.out H3.out (S3.out.below L3.out)
          clear hP O3 L3 G3 H3
          clear wy
          obtain ⟨wy, rfl⟩ : ∃ wy, wy = wn := ⟨_, rfl⟩
          have hP := Lib.hid hP2
          clear hP2
          refine hK.out _ _ (trivial) (fun hHeldN => ?_)
          clear hHeld hK K
          have hHeld := hHeldN
          clear hHeldN
          try simp only [Act.put, List.setIfInBounds_toArray, List.set_cons_zero, List.set_cons_succ]
          refine held_ready (i := 6) rfl (by kernel_rfl) (fun K hK => ?_)
          go_simp
          refine (mac_text _ _ _ key (name ++ [1]) (row_text' hP.out.st.k ks.out kl.out) ((hP.out.own _ _ rfl).text sm1.out) (by rw [kl.out]; decide) (by simp only [List.length_append, List.length_cons, List.length_nil]; omega)).mono ?_
          rintro e wn ⟨rfl, By⟩
          have hP2 := hP.out.more By
          clear hP By
          clear wy
          obtain ⟨wy, rfl⟩ : ∃ wy, wy = wn := ⟨_, rfl⟩
          have hP := Lib.hid hP2
          clear hP2
          refine hK.out _ _ (trivial) (fun hHeldN => ?_)
          clear hHeld hK K
          have hHeld := hHeldN
          clear hHeldN
          try simp only [Act.put, List.setIfInBounds_toArray, List.set_cons_zero, List.set_cons_succ]
          refine held_ready (i := 8) rfl (by kernel_rfl) (fun K hK => ?_)
          rw [if_pos (by rfl)]
          refine wp_store_s 27 (.tmp 15) (.tmp 59) rfl g7 (macs key (name ++ [1])) rfl rfl 27 _ (hP.out.res _ rfl).1 iM zM ?_
          intro wn R8 U8
          have L8 : Below w3.heap.size w3 wn := hP.out.low.trans (U8.out.below (fun k hk e => by have := (hP.out.res _ rfl).2.1; omega) hP.out.low.size)
          have A8 : AskB wn.drew g7 w.heap.size (.slice a9 n n) (.slice a11 m m) (.slice a13 32 32) (.slice an nl cn) key name A B C C := ⟨(S3.out.below L8).below (Below.refl _ _).drew, by have h := R8.out; rw [← eCM.out] at h; exact h⟩
          have low8 : Below w.heap.size w wn.drew := (b3.out.trans (L8.mono b3.out.size)).drew
          clear hP R8 U8 L8
          replace A8 := Lib.hid A8
          replace low8 := Lib.hid low8
          refine hK.out _ _ (trivial) (fun hHeldN => ?_)
          clear hHeld hK K
          have hHeld := hHeldN
          clear hHeldN
          try simp only [Act.put, List.setIfInBounds_toArray, List.set_cons_zero, List.set_cons_succ]
          refine wpAnyH_done (by kernel_rfl) ?_ _
          clear hHeld
          exact leaf g1 g4 g7 v3 v5 wn ⟨A8, low8⟩
      ·
        rw [if_pos (by rfl)]
        go_simp
        refine name_world2 (fun wn hwn => ?_)
        have hP2 := (hP.out.mk7).at hwn.out
        clear hwn hP
        generalize wy.heap.size = g7 at hP2 ⊢
        clear wy
        obtain ⟨wy, rfl⟩ : ∃ wy, wy = wn := ⟨_, rfl⟩
        have hP := Lib.hid hP2
        clear hP2
        refine hK.out _ _ (trivial) (fun hHeldN => ?_)
        clear hHeld hK K
        have hHeld := hHeldN
        clear hHeldN
        try simp only [Act.put, List.setIfInBounds_toArray, List.set_cons_zero, List.set_cons_succ]
        refine held_ready (i := 1) rfl (by kernel_rfl) (fun K hK => ?_)
        rw [if_pos (by rfl)]
        go_simp
        refine name_world2 (fun wn hwn => ?_)
        have hP2 := (hP.out.mk1).at hwn.out
        clear hwn hP
        generalize wy.heap.size = g1 at hP2 ⊢
        clear wy
        obtain ⟨wy, rfl⟩ : ∃ wy, wy = wn := ⟨_, rfl⟩
        have hP := Lib.hid hP2
        clear hP2
        refine hK.out _ _ (trivial) (fun hHeldN => ?_)
        clear hHeld hK K
        have hHeld := hHeldN
        clear hHeldN
        try simp only [Act.put, List.setIfInBounds_toArray, List.set_cons_zero, List.set_cons_succ]
        refine held_ready (i := 3) rfl (by kernel_rfl) (fun K hK => ?_)
        rw [if_pos (by rfl)]
        refine wp_append_t (.tmp 54) (.tmp 55) rfl w3.heap.size w3 _ [] rfl (hP.out.own _ _ rfl) hP.out.low hP.out.low.size (.slice an nl cn) name rfl hP.out.st.n (by simp only [List.length_nil]; omega) ?_
        intro v3 wn O3 L3 G3 H3
        rw [List.nil_append] at O3
        have hP2 := hP.out.mk3 O3.out L3.out G3.out H3.out (S3.out.below L3.out)
        clear hP O3 L3 G3 H3
        clear wy
        obtain ⟨wy, rfl⟩ : ∃ wy, wy = wn := ⟨_, rfl⟩
        have hP := Lib.hid hP2
        clear hP2
        refine hK.out _ _ (trivial) (fun hHeldN => ?_)
        clear hHeld hK K
        have hHeld := hHeldN
        clear hHeldN
        try simp only [Act.put, List.setIfInBounds_toArray, List.set_cons_zero, List.set_cons_succ]
        refine held_ready (i := 5) rfl (by kernel_rfl) (fun K hK => ?_)
        rw [if_pos (by rfl)]
        refine wp_append_t (.tmp 56) (.tmp 57) rfl w3.heap.size w3 _ name rfl (hP.out.own _ _ rfl) hP.out.low hP.out.low.size _ [1] rfl (hP.out.one _ rfl).1 (by simp only [List.length_cons, List.length_nil]; omega) ?_
        intro v5 wn O3 L3 G3 H3
        have hP2 := hP.out.mk3 O3.out L3.out G3.out H3.out (S3.out.below L3.out)
        clear hP O3 L3 G3 H3
        clear wy
        obtain ⟨wy, rfl⟩ : ∃ wy, wy = wn := ⟨_, rfl⟩
        have hP := Lib.hid hP2
        clear hP2
        refine hK.out _ _ (trivial) (fun hHeldN => ?_)
        clear hHeld hK K
        have hHeld := hHeldN
        clear hHeldN
        try simp only [Act.put, List.setIfInBounds_toArray, List.set_cons_zero, List.set_cons_succ]
        refine held_ready (i := 6) rfl (by kernel_rfl) (fun K hK => ?_)
        go_simp
        refine (mac_text _ _ _ key (name ++ [1]) (row_text' hP.out.st.k ks.out kl.out) ((hP.out.own _ _ rfl).text sm1.out) (by rw [kl.out]; decide) (by simp only [List.length_append, List.length_cons, List.length_nil]; omega)).mono ?_
        rintro e wn ⟨rfl, By⟩
        have hP2 := hP.out.more By
        clear hP By
        clear wy
        obtain ⟨wy, rfl⟩ : ∃ wy, wy = wn := ⟨_, rfl⟩
        have hP := Lib.hid hP2
        clear hP2
        refine hK.out _ _ (trivial) (fun hHeldN => ?_)
        clear hHeld hK K
        have hHeld := hHeldN
        clear hHeldN
        try simp only [Act.put, List.setIfInBounds_toArray, List.set_cons_zero, List.set_cons_succ]
        refine held_ready (i := 8) rfl (by kernel_rfl) (fun K hK => ?_)
        rw [if_pos (by rfl)]
        refine wp_store_s 27 (.tmp 15) (.tmp 59) rfl g7 (macs key (name ++ [1])) rfl rfl 27 _ (hP.out.res _ rfl).1 iM zM ?_
        intro wn R8 U8
        have L8 : Below w3.heap.size w3 wn := hP.out.low.trans (U8.out.below (fun k hk e => by have := (hP.out.res _ rfl).2.1; omega) hP.out.low.size)
        have A8 : AskB wn.drew g7 w.heap.size (.slice a9 n n) (.slice a11 m m) (.slice a13 32 32) (.slice an nl cn) key name A B C C := ⟨(S3.out.below L8).below (Below.refl _ _).drew, by have h := R8.out; rw [← eCM.out] at h; exact h⟩
        have low8 : Below w.heap.size w wn.drew := (b3.out.trans (L8.mono b3.out.size)).drew
        clear hP R8 U8 L8
        replace A8 := Lib.hid A8
        replace low8 := Lib.hid low8
        refine hK.out _ _ (trivial) (fun hHeldN => ?_)
        clear hHeld hK K
        have hHeld := hHeldN
        clear hHeldN
        try simp only [Act.put, List.setIfInBounds_toArray, List.set_cons_zero, List.set_cons_succ]
        refine wpAnyH_done (by kernel_rfl) ?_ _
        clear hHeld
        exact leaf g1 g4 g7 v3 v5 wn ⟨A8, low8⟩
    ·
      rw [if_pos (by rfl)]
      go_simp
      refine name_world2 (fun wn hwn => ?_)
      have hP2 := (hP.out.mk7).at hwn.out
      clear hwn hP
      generalize wy.heap.size = g7 at hP2 ⊢
      clear wy
      obtain ⟨wy, rfl⟩ : ∃ wy, wy = wn := ⟨_, rfl⟩
      have hP := Lib.hid hP2
      clear hP2
      refine hK.out _ _ (trivial) (fun hHeldN => ?_)
      clear hHeld hK K
      have hHeld := hHeldN
      clear hHeldN
      try simp only [Act.put, List.setIfInBounds_toArray, List.set_cons_zero, List.set_cons_succ]
      refine held_readies2 (i0 := 1) (i1 := 4) rfl rfl (by kernel_rfl) (fun K hK => ?_) (fun K hK => ?_)
      ·
        rw [if_pos (by rfl)]
        go_simp
        refine name_world2 (fun wn hwn => ?_)
        have hP2 := (hP.out.mk1).at hwn.out
        clear hwn hP
        generalize wy.heap.size = g1 at hP2 ⊢
        clear wy
        obtain ⟨wy, rfl⟩ : ∃ wy, wy = wn := ⟨_, rfl⟩
        have hP := Lib.hid hP2
        clear hP2
        refine hK.out _ _ (trivial) (fun hHeldN => ?_)
        clear hHeld hK K
        have hHeld := hHeldN
        clear hHeldN
        try simp only [Act.put, List.setIfInBounds_toArray, List.set_cons_zero, List.set_cons_succ]
        refine held_readies2 (i0 := 3) (i1 := 4) rfl rfl (by kernel_rfl) (fun K hK => ?_) (fun K hK => ?_)
        ·
          rw [if_pos (by rfl)]
          refine wp_append_t (.tmp 54) (.tmp 55) rfl w3.heap.size w3 _ [] rfl (hP.out.own _ _ rfl) hP.out.low hP.out.low.size (.slice an nl cn) name rfl hP.out.st.n (by simp only [List.length_nil]; omega) ?_
          intro v3 wn O3 L3 G3 H3
          rw [List.nil_append] at O3
          have hP2 := hP.out.mk3 O3.out L3.out G3.out H3.out (S3.out.below L3.out)
          clear hP O3 L3 G3 H3
          clear wy
          obtain ⟨wy, rfl⟩ : ∃ wy, wy = wn := ⟨_, rfl⟩
          have hP := Lib.hid hP2
          clear hP2
          refine hK.out _ _ (trivial) (fun hHeldN => ?_)
          clear hHeld hK K
          have hHeld := hHeldN
          clear hHeldN
          try simp only [Act.put, List.setIfInBounds_toArray, List.set_cons_zero, List.set_cons_succ]
          refine held_ready (i := 4) rfl (by kernel_rfl) (fun K hK => ?_)
          rw [if_pos (by rfl)]
          go_simp
          refine name_world2 (fun wn hwn => ?_)
          have hP2 := (hP.out.mk4).at hwn.out
          clear hwn hP
          generalize wy.heap.size = g4 at hP2 ⊢
          clear wy
          obtain ⟨wy, rfl⟩ : ∃ wy, wy = wn := ⟨_, rfl⟩
          have hP := Lib.hid hP2
          clear hP2
          refine hK.out _ _ (trivial) (fun hHeldN => ?_)
          clear hHeld hK K
          have hHeld := hHeldN
          clear hHeldN
          try simp only [Act.put, List.setIfInBounds_toArray, List.set_cons_zero, List.set_cons_succ]
          refine held_ready (i := 5) rfl (by kernel_rfl) (fun K hK => ?_)
          rw [if_pos (by rfl)]
          refine wp_append_t (.tmp 56) (.tmp 57) rfl w3.heap.size w3 _ name rfl (hP.out.own _ _ rfl) hP.out.low hP.out.low.size _ [1] rfl (hP.out.one _ rfl).1 (by simp only [List.length_cons, List.length_nil]; omega) ?_
          intro v5 wn O3 L3 G3 H3
          have hP2 := hP.out.mk3 O3.out L3.out G3.out H3.out (S3.out.below L3.out)
          clear hP O3 L3 G3 H3
          clear wy
          obtain ⟨wy, rfl⟩ : ∃ wy, wy = wn := ⟨_, rfl⟩
          have hP := Lib.hid hP2
          clear hP2
          refine hK.out _ _ (trivial) (fun hHeldN => ?_)
          clear hHeld hK K
          have hHeld := hHeldN
          clear hHeldN
          try simp only [Act.put, List.setIfInBounds_toArray, List.set_cons_zero, List.set_cons_succ]
          refine held_ready (i := 6) rfl (by kernel_rfl) (fun K hK => ?_)
          go_simp
          refine (mac_text _ _ _ key (name ++ [1]) (row_text' hP.out.st.k ks.out kl.out) ((hP.out.own _ _ rfl).text sm1.out) (by rw [kl.out]; decide) (by simp only [List.length_append, List.length_cons, List.length_nil]; omega)).mono ?_
          rintro e wn ⟨rfl, By⟩
          have hP2 := hP.out.more By
          clear hP By
          clear wy
          obtain ⟨wy, rfl⟩ : ∃ wy, wy = wn := ⟨_, rfl⟩
          have hP := Lib.hid hP2
          clear hP2
          refine hK.out _ _ (trivial) (fun hHeldN => ?_)
          clear hHeld hK K
          have hHeld := hHeldN
          clear hHeldN
          try simp only [Act.put, List.setIfInBounds_toArray, List.set_cons_zero, List.set_cons_succ]
          refine held_ready (i := 8) rfl (by kernel_rfl) (fun K hK => ?_)
          rw [if_pos (by rfl)]
          refine wp_store_s 27 (.tmp 15) (.tmp 59) rfl g7 (macs key (name ++ [1])) rfl rfl 27 _ (hP.out.res _ rfl).1 iM zM ?_
          intro wn R8 U8
          have L8 : Below w3.heap.size w3 wn := hP.out.low.trans (U8.out.below (fun k hk e => by have := (hP.out.res _ rfl).2.1; omega) hP.out.low.size)
          have A8 : AskB wn.drew g7 w.heap.size (.slice a9 n n) (.slice a11 m m) (.slice a13 32 32) (.slice an nl cn) key name A B C C := ⟨(S3.out.below L8).below (Below.refl _ _).drew, by have h := R8.out; rw [← eCM.out] at h; exact h⟩
          have low8 : Below w.heap.size w wn.drew := (b3.out.trans (L8.mono b3.out.size)).drew
          clear hP R8 U8 L8
          replace A8 := Lib.hid A8
          replace low8 := Lib.hid low8
          refine hK.out _ _ (trivial) (fun hHeldN => ?_)
          clear hHeld hK K
          have hHeld := hHeldN
          clear hHeldN
          try simp only [Act.put, List.setIfInBounds_toArray, List.set_cons_zero, List.set_cons_succ]
          refine wpAnyH_done (by kernel_rfl) ?_ _
          clear hHeld
          exact leaf g1 g4 g7 v3 v5 wn ⟨A8, low8⟩
        ·
          rw [if_pos (by rfl)]
          go_simp
          refine name_world2 (fun wn hwn => ?_)
          have hP2 := (hP.out.mk4).at hwn.out
          clear hwn hP
          generalize wy.heap.size = g4 at hP2 ⊢
          clear wy
          obtain ⟨wy, rfl⟩ : ∃ wy, wy = wn := ⟨_, rfl⟩
          have hP := Lib.hid hP2
          clear hP2
          refine hK.out _ _ (trivial) (fun hHeldN => ?_)
          clear hHeld hK K
          have hHeld := hHeldN
          clear hHeldN
          try simp only [Act.put, List.setIfInBounds_toArray, List.set_cons_zero, List.set_cons_succ]
          refine held_ready (i := 3) rfl (by kernel_rfl) (fun K hK => ?_)
          rw [if_pos (by rfl)]
          refine wp_append_t (.tmp 54) (.tmp 55) rfl w3.heap.size w3 _ [] rfl (hP.out.own _ _ rfl) hP.out.low hP.out.low.size (.slice an nl cn) name rfl hP.out.st.n (by simp only [List.length_nil]; omega) ?_
          intro v3 wn O3 L3 G3 H3
          rw [List.nil_append] at O3
          have hP2 := hP.out.mk3 O3.out L3.out G3.out H3.out (S3.out.below L3.out)
          clear hP O3 L3 G3 H3
          clear wy
          obtain ⟨wy, rfl⟩ : ∃ wy, wy = wn := ⟨_, rfl⟩
          have hP := Lib.hid hP2
          clear hP2
          refine hK.out _ _ (trivial) (fun hHeldN => ?_)
          clear hHeld hK K
          have hHeld := hHeldN
          clear hHeldN
          try simp only [Act.put, List.setIfInBounds_toArray, List.set_cons_zero, List.set_cons_succ]
          refine held_ready (i := 5) rfl (by kernel_rfl) (fun K hK => ?_)
          rw [if_pos (by rfl)]
          refine wp_append_t (.tmp 56) (.tmp 57) rfl w3.heap.size w3 _ name rfl (hP.out.own _ _ rfl) hP.out.low hP.out.low.size _ [1] rfl (hP.out.one _ rfl).1 (by simp only [List.length_cons, List.length_nil]; omega) ?_
          intro v5 wn O3 L3 G3 H3
          have hP2 := hP.out.mk3 O3.out L3.out G3.out H3.out (S3.out.below L3.out)
          clear hP O3 L3 G3 H3
          clear wy
          obtain ⟨wy, rfl⟩ : ∃ wy, wy = wn := ⟨_, rfl⟩
          have hP := Lib.hid hP2
          clear hP2
          refine hK.out _ _ (trivial) (fun hHeldN => ?_)
          clear hHeld hK K
          have hHeld := hHeldN
          clear hHeldN
          try simp only [Act.put, List.setIfInBounds_toArray, List.set_cons_zero, List.set_cons_succ]
          refine held_ready (i := 6) rfl (by kernel_rfl) (fun K hK => ?_)
          go_simp
          refine (mac_text _ _ _ key (name ++ [1]) (row_text' hP.out.st.k ks.out kl.out) ((hP.out.own _ _ rfl).text sm1.out) (by rw [kl.out]; decide) (by simp only [List.length_append, List.length_cons, List.length_nil]; omega)).mono ?_
          rintro e wn ⟨rfl, By⟩
          have hP2 := hP.out.more By
          clear hP By
          clear wy
          obtain ⟨wy, rfl⟩ : ∃ wy, wy = wn := ⟨_, rfl⟩
          have hP := Lib.hid hP2
          clear hP2
          refine hK.out _ _ (trivial) (fun hHeldN => ?_)
          clear hHeld hK K
          have hHeld := hHeldN
          clear hHeldN
          try simp only [Act.put, List.setIfInBounds_toArray, List.set_cons_zero, List.set_cons_succ]
          refine held_ready (i := 8) rfl (by kernel_rfl) (fun K hK => ?_)
          rw [if_pos (by rfl)]
          refine wp_store_s 27 (.tmp 15) (.tmp 59) rfl g7 (macs key (name ++ [1])) rfl rfl 27 _ (hP.out.res _ rfl).1 iM zM ?_
          intro wn R8 U8
          have L8 : Below w3.heap.size w3 wn := hP.out.low.trans (U8.out.below (fun k hk e => by have := (hP.out.res _ rfl).2.1; omega) hP.out.low.size)
          have A8 : AskB wn.drew g7 w.heap.size (.slice a9 n n) (.slice a11 m m) (.slice a13 32 32) (.slice an nl cn) key name A B C C := ⟨(S3.out.below L8).below (Below.refl _ _).drew, by have h := R8.out; rw [← eCM.out] at h; exact h⟩
          have low8 : Below w.heap.size w wn.drew := (b3.out.trans (L8.mono b3.out.size)).drew
          clear hP R8 U8 L8
          replace A8 := Lib.hid A8
          replace low8 := Lib.hid low8
          refine hK.out _ _ (trivial) (fun hHeldN => ?_)
          clear hHeld hK K
          have hHeld := hHeldN
          clear hHeldN
          try simp only [Act.put, List.setIfInBounds_toArray, List.set_cons_zero, List.set_cons_succ]
          refine wpAnyH_done (by kernel_rfl) ?_ _
          clear hHeld
          exact leaf g1 g4 g7 v3 v5 wn ⟨A8, low8⟩
      ·
        rw [if_pos (by rfl)]
        go_simp
        refine name_world2 (fun wn hwn => ?_)
        have hP2 := (hP.out.mk4).at hwn.out
        clear hwn hP
        generalize wy.heap.size = g4 at hP2 ⊢
        clear wy
        obtain ⟨wy, rfl⟩ : ∃ wy, wy = wn := ⟨_, rfl⟩
        have hP := Lib.hid hP2
        clear hP2
        refine hK.out _ _ (trivial) (fun hHeldN => ?_)
        clear hHeld hK K
        have hHeld := hHeldN
        clear hHeldN
        try simp only [Act.put, List.setIfInBounds_toArray, List.set_cons_zero, List.set_cons_succ]
        refine held_ready (i := 1) rfl (by kernel_rfl) (fun K hK => ?_)
        rw [if_pos (by rfl)]
        go_simp
        refine name_world2 (fun wn hwn => ?_)
        have hP2 := (hP.out.mk1).at hwn.out
        clear hwn hP
        generalize wy.heap.size = g1 at hP2 ⊢
        clear wy
        obtain ⟨wy, rfl⟩ : ∃ wy, wy = wn := ⟨_, rfl⟩
        have hP := Lib.hid hP2
        clear hP2
        refine hK.out _ _ (trivial) (fun hHeldN => ?_)
        clear hHeld hK K
        have hHeld := hHeldN
        clear hHeldN
        try simp only [Act.put, List.setIfInBounds_toArray, List.set_cons_zero, List.set_cons_succ]
        refine held_ready (i := 3) rfl (by kernel_rfl) (fun K hK => ?_)
        rw [if_pos (by rfl)]
        refine wp_append_t (.tmp 54) (.tmp 55) rfl w3.heap.size w3 _ [] rfl (hP.out.own _ _ rfl) hP.out.low hP.out.low.size (.slice an nl cn) name rfl hP.out.st.n (by simp only [List.length_nil]; omega) ?_
        intro v3 wn O3 L3 G3 H3
        rw [List.nil_append] at O3
        have hP2 := hP.out.mk3 O3.out L3.out G3.out H3.out (S3.out.below L3.out)
        clear hP O3 L3 G3 H3
        clear wy
        obtain ⟨wy, rfl⟩ : ∃ wy, wy = wn := ⟨_, rfl⟩
        have hP := Lib.hid hP2
        clear hP2
        refine hK.out _ _ (trivial) (fun hHeldN => ?_)
        clear hHeld hK K
        have hHeld := hHeldN
        clear hHeldN
        try simp only [Act.put, List.setIfInBounds_toArray, List.set_cons_zero, List.set_cons_succ]
        refine held_ready (i := 5) rfl (by kernel_rfl) (fun K hK => ?_)
        rw [if_pos (by rfl)]
        refine wp_append_t (.tmp 56) (.tmp 57) rfl w3.heap.size w3 _ name rfl (hP.out.own _ _ rfl) hP.out.low hP.out.low.size _ [1] rfl (hP.out.one _ rfl).1 (by simp only [List.length_cons, List.length_nil]; omega) ?_
        intro v5 wn O3 L3 G3 H3
        have hP2 := hP.out.mk3 O3.out L3.out G3.out H3.out (S3.out.below L3.out)
        clear hP O3 L3 G3 H3
        clear wy
        obtain ⟨wy, rfl⟩ : ∃ wy, wy = wn := ⟨_, rfl⟩
        have hP := Lib.hid hP2
        clear hP2
        refine hK.out _ _ (trivial) (fun hHeldN => ?_)
        clear hHeld hK K
        have hHeld := hHeldN
        clear hHeldN
        try simp only [Act.put, List.setIfInBounds_toArray, List.set_cons_zero, List.set_cons_succ]
        refine held_ready (i := 6) rfl (by kernel_rfl) (fun K hK => ?_)
        go_simp
        refine (mac_text _ _ _ key (name ++ [1]) (row_text' hP.out.st.k ks.out kl.out) ((hP.out.own _ _ rfl).text sm1.out) (by rw [kl.out]; decide) (by simp only [List.length_append, List.length_cons, List.length_nil]; omega)).mono ?_
        rintro e wn ⟨rfl, By⟩
        have hP2 := hP.out.more By
        clear hP By
        clear wy
        obtain ⟨wy, rfl⟩ : ∃ wy, wy = wn := ⟨_, rfl⟩
        have hP := Lib.hid hP2
        clear hP2
        refine hK.out _ _ (trivial) (fun hHeldN => ?_)
        clear hHeld hK K
        have hHeld := hHeldN
        clear hHeldN
        try simp only [Act.put, List.setIfInBounds_toArray, List.set_cons_zero, List.set_cons_succ]
        refine held_ready (i := 8) rfl (by kernel_rfl) (fun K hK => ?_)
        rw [if_pos (by rfl)]
        refine wp_store_s 27 (.tmp 15) (.tmp 59) rfl g7 (macs key (name ++ [1])) rfl rfl 27 _ (hP.out.res _ rfl).1 iM zM ?_
        intro wn R8 U8
        have L8 : Below w3.heap.size w3 wn := hP.out.low.trans (U8.out.below (fun k hk e => by have := (hP.out.res _ rfl).2.1; omega) hP.out.low.size)
        have A8 : AskB wn.drew g7 w.heap.size (.slice a9 n n) (.slice a11 m m) (.slice a13 32 32) (.slice an nl cn) key name A B C C := ⟨(S3.out.below L8).below (Below.refl _ _).drew, by have h := R8.out; rw [← eCM.out] at h; exact h⟩
        have low8 : Below w.heap.size w wn.drew := (b3.out.trans (L8.mono b3.out.size)).drew
        clear hP R8 U8 L8
        replace A8 := Lib.hid A8
        replace low8 := Lib.hid low8
        refine hK.out _ _ (trivial) (fun hHeldN => ?_)
        clear hHeld hK K
        have hHeld := hHeldN
        clear hHeldN
        try simp only [Act.put, List.setIfInBounds_toArray, List.set_cons_zero, List.set_cons_succ]
        refine wpAnyH_done (by kernel_rfl) ?_ _
        clear hHeld
        exact leaf g1 g4 g7 v3 v5 wn ⟨A8, low8⟩
  case leaf =>
    rintro g1 g4 g7 v3 v5 wn ⟨A8, low8⟩
    go_wp2_with fail
    refine wp_region_held_drew (S := (fun w' => AskB w' g7 w.heap.size (.slice a9 n n) (.slice a11 m m) (.slice a13 32 32) (.slice an nl cn) key name A B C C)) (by kernel_rfl) (A8.out) (fun hHeld => ?_)
    refine held_ready (i := 0) rfl (by kernel_rfl) (fun K hK => ?_)
    go_simp
    refine (al.out _).mono ?_; rintro e w9 ⟨rfl, B9⟩
    have A9 := A8.out.below B9
    have low9 := low8.out.trans (B9.mono low8.out.size)
    replace B9 := Lib.hid B9
    replace A9 := Lib.hid A9
    replace low9 := Lib.hid low9
    refine hK.out _ _ (A9.out) (fun hHeldN => ?_)
    clear hHeld hK K
    have hHeld := hHeldN
    clear hHeldN
    try simp only [Act.put, List.setIfInBounds_toArray, List.set_cons_zero, List.set_cons_succ]
    refine held_take (i := 1) (v := ?_) rfl (by kernel_rfl) (by kernel_rfl) (by kernel_rfl) (fun _ _ _ h => h) (Or.inl ⟨by rfl, ?_⟩) (by assumption) ?_
    rotate_left
    · intro w hSw; (try dsimp only at hSw); go_simp; try with_reducible rfl
    try simp only [Act.put, List.setIfInBounds_toArray, List.set_cons_zero, List.set_cons_succ]
    refine held_take (i := 2) (v := ?_) rfl (by kernel_rfl) (by kernel_rfl) (by kernel_rfl) (fun _ _ _ h => h) (Or.inl ⟨by rfl, ?_⟩) (by assumption) ?_
    rotate_left
    · intro w hSw; (try dsimp only at hSw); go_simp; try with_reducible rfl
    try simp only [Act.put, List.setIfInBounds_toArray, List.set_cons_zero, List.set_cons_succ]
    refine held_take (i := 3) (v := ?_) rfl (by kernel_rfl) (by kernel_rfl) (by kernel_rfl) (fun _ _ _ h => h) (Or.inl ⟨by rfl, ?_⟩) (by assumption) ?_
    rotate_left
    · intro w hSw; (try dsimp only at hSw); go_simp; try with_reducible rfl
    try simp only [Act.put, List.setIfInBounds_toArray, List.set_cons_zero, List.set_cons_succ]
    refine held_take (i := 4) (v := ?_) rfl (by kernel_rfl) (by kernel_rfl) (by kernel_rfl) (fun _ _ _ h => h) (Or.inl ⟨by rfl, ?_⟩) (by assumption) ?_
    rotate_left
    · intro w hSw; (try dsimp only at hSw); go_simp; try with_reducible rfl
    try simp only [Act.put, List.setIfInBounds_toArray, List.set_cons_zero, List.set_cons_succ]
    refine held_take (i := 5) (v := ?_) rfl (by kernel_rfl) (by kernel_rfl) (by kernel_rfl) (fun _ _ _ h => h) (Or.inl ⟨by rfl, ?_⟩) (by assumption) ?_
    rotate_left
    · intro w hSw; (try dsimp only at hSw); go_simp; try with_reducible rfl
    try simp only [Act.put, List.setIfInBounds_toArray, List.set_cons_zero, List.set_cons_succ]
    refine held_take (i := 6) (v := ?_) rfl (by kernel_rfl) (by kernel_rfl) (by kernel_rfl) (fun _ _ _ h => h) (Or.inl ⟨by rfl, ?_⟩) (by assumption) ?_
    rotate_left
    · intro w hSw; (try dsimp only at hSw); go_simp; try with_reducible rfl
    try simp only [Act.put, List.setIfInBounds_toArray, List.set_cons_zero, List.set_cons_succ]
    refine held_take (i := 7) (v := ?_) rfl (by kernel_rfl) (by kernel_rfl) (by kernel_rfl) (fun _ _ _ h => h) (Or.inl ⟨by rfl, ?_⟩) (by assumption) ?_
    rotate_left
    · intro w hSw; (try dsimp only at hSw); go_simp; try with_reducible rfl
    try simp only [Act.put, List.setIfInBounds_toArray, List.set_cons_zero, List.set_cons_succ]
    refine held_take (i := 8) (v := ?_) rfl (by kernel_rfl) (by kernel_rfl) (by kernel_rfl) (fun _ _ _ h => h) (Or.inl ⟨by rfl, ?_⟩) (by assumption) ?_
    rotate_left
    · intro w hSw; (try dsimp only at hSw); go_simp; try with_reducible rfl
    try simp only [Act.put, List.setIfInBounds_toArray, List.set_cons_zero, List.set_cons_succ]
    refine held_take (i := 9) (v := ?_) rfl (by kernel_rfl) (by kernel_rfl) (by kernel_rfl) (fun _ _ _ h => h) (Or.inl ⟨by rfl, ?_⟩) (by assumption) ?_
    rotate_left
    · intro w hSw; (try dsimp only at hSw); go_simp; try with_reducible rfl
    try simp only [Act.put, List.setIfInBounds_toArray, List.set_cons_zero, List.set_cons_succ]
    refine held_take (i := 10) (v := ?_) rfl (by kernel_rfl) (by kernel_rfl) (by kernel_rfl) (fun _ _ _ h => h) (Or.inl ⟨by rfl, ?_⟩) (by assumption) ?_
    rotate_left
    · intro w hSw; (try dsimp only at hSw); go_simp; try with_reducible rfl
    try simp only [Act.put, List.setIfInBounds_toArray, List.set_cons_zero, List.set_cons_succ]
    refine held_take (i := 11) (v := ?_) rfl (by kernel_rfl) (by kernel_rfl) (by kernel_rfl) (fun _ _ _ h => h) (Or.inl ⟨by rfl, ?_⟩) (by assumption) ?_
    rotate_left
    · intro w hSw; (try dsimp only at hSw); go_simp; try with_reducible rfl
    try simp only [Act.put, List.setIfInBounds_toArray, List.set_cons_zero, List.set_cons_succ]
    refine held_take (i := 12) (v := ?_) rfl (by kernel_rfl) (by kernel_rfl) (by kernel_rfl) (fun _ _ _ h => h) (Or.inl ⟨by rfl, ?_⟩) (by assumption) ?_
    rotate_left
    · intro w hSw; (try dsimp only at hSw); go_simp; try with_reducible rfl
    try simp only [Act.put, List.setIfInBounds_toArray, List.set_cons_zero, List.set_cons_succ]
    refine held_take (i := 13) (v := ?_) rfl (by kernel_rfl) (by kernel_rfl) (by kernel_rfl) (fun _ _ _ h => h) (Or.inl ⟨by rfl, ?_⟩) (by assumption) ?_
    rotate_left
    · intro w hSw; (try dsimp only at hSw); go_simp; try with_reducible rfl
    try simp only [Act.put, List.setIfInBounds_toArray, List.set_cons_zero, List.set_cons_succ]
    refine held_take (i := 14) (v := ?_) rfl (by kernel_rfl) (by kernel_rfl) (by kernel_rfl) (fun _ _ _ h => h) (Or.inl ⟨by rfl, ?_⟩) (by assumption) ?_
    rotate_left
    · intro w hSw; (try dsimp only at hSw); go_simp; try with_reducible rfl
    try simp only [Act.put, List.setIfInBounds_toArray, List.set_cons_zero, List.set_cons_succ]
    refine held_take (i := 15) (v := ?_) rfl (by kernel_rfl) (by kernel_rfl) (by kernel_rfl) (fun _ _ _ h => h) (Or.inl ⟨by rfl, ?_⟩) (by assumption) ?_
    rotate_left
    · intro w hSw; (try dsimp only at hSw); go_simp; try with_reducible rfl
    try simp only [Act.put, List.setIfInBounds_toArray, List.set_cons_zero, List.set_cons_succ]
    refine held_take (i := 16) (v := ?_) rfl (by kernel_rfl) (by kernel_rfl) (by kernel_rfl) (fun _ _ _ h => h) (Or.inl ⟨by rfl, ?_⟩) (by assumption) ?_
    rotate_left
    · intro w hSw; (try dsimp only at hSw); go_simp; try with_reducible rfl
    try simp only [Act.put, List.setIfInBounds_toArray, List.set_cons_zero, List.set_cons_succ]
    refine held_take (i := 17) (v := ?_) rfl (by kernel_rfl) (by kernel_rfl) (by kernel_rfl) (fun _ _ _ h => h) (Or.inl ⟨by rfl, ?_⟩) (by assumption) ?_
    rotate_left
    · intro w hSw; (try dsimp only at hSw); go_simp; try with_reducible rfl
    try simp only [Act.put, List.setIfInBounds_toArray, List.set_cons_zero, List.set_cons_succ]
    refine held_take (i := 18) (v := ?_) rfl (by kernel_rfl) (by kernel_rfl) (by kernel_rfl) (fun _ _ _ h => h) (Or.inl ⟨by rfl, ?_⟩) (by assumption) ?_
    rotate_left
    · intro w hSw; (try dsimp only at hSw); go_simp; try with_reducible rfl
    try simp only [Act.put, List.setIfInBounds_toArray, List.set_cons_zero, List.set_cons_succ]
    refine held_take (i := 19) (v := ?_) rfl (by kernel_rfl) (by kernel_rfl) (by kernel_rfl) (fun _ _ _ h => h) (Or.inl ⟨by rfl, ?_⟩) (by assumption) ?_
    rotate_left
    · intro w hSw; (try dsimp only at hSw); go_simp; try with_reducible rfl
    try simp only [Act.put, List.setIfInBounds_toArray, List.set_cons_zero, List.set_cons_succ]
    refine held_take (i := 20) (v := ?_) rfl (by kernel_rfl) (by kernel_rfl) (by kernel_rfl) (fun _ _ _ h => h) (Or.inl ⟨by rfl, ?_⟩) (by assumption) ?_
    rotate_left
    · intro w hSw; (try dsimp only at hSw); go_simp; try with_reducible rfl
    try simp only [Act.put, List.setIfInBounds_toArray, List.set_cons_zero, List.set_cons_succ]
    refine held_take (i := 21) (v := ?_) rfl (by kernel_rfl) (by kernel_rfl) (by kernel_rfl) (fun _ _ _ h => h) (Or.inl ⟨by rfl, ?_⟩) (by assumption) ?_
    rotate_left
    · intro w hSw; (try dsimp only at hSw); go_simp; try with_reducible rfl
    try simp only [Act.put, List.setIfInBounds_toArray, List.set_cons_zero, List.set_cons_succ]
    refine held_take (i := 22) (v := ?_) rfl (by kernel_rfl) (by kernel_rfl) (by kernel_rfl) (fun _ _ _ h => h) (Or.inl ⟨by rfl, ?_⟩) (by assumption) ?_
    rotate_left
    · intro w hSw; (try dsimp only at hSw); go_simp; try with_reducible rfl
    try simp only [Act.put, List.setIfInBounds_toArray, List.set_cons_zero, List.set_cons_succ]
    refine held_take (i := 23) (v := ?_) rfl (by kernel_rfl) (by kernel_rfl) (by kernel_rfl) (fun _ _ _ h => h) (Or.inl ⟨by rfl, ?_⟩) (by assumption) ?_
    rotate_left
    · intro w hSw; (try dsimp only at hSw); go_simp; try with_reducible rfl
    try simp only [Act.put, List.setIfInBounds_toArray, List.set_cons_zero, List.set_cons_succ]
    refine held_take (i := 24) (v := ?_) rfl (by kernel_rfl) (by kernel_rfl) (by kernel_rfl) (fun _ _ _ h => h) (Or.inl ⟨by rfl, ?_⟩) (by assumption) ?_
    rotate_left
    · intro w hSw; (try dsimp only at hSw); go_simp; try with_reducible rfl
    try simp only [Act.put, List.setIfInBounds_toArray, List.set_cons_zero, List.set_cons_succ]
    refine held_take (i := 25) (v := ?_) rfl (by kernel_rfl) (by kernel_rfl) (by kernel_rfl) (fun _ _ _ h => h) (Or.inl ⟨by rfl, ?_⟩) (by assumption) ?_
    rotate_left
    · intro w hSw; (try dsimp only at hSw); go_simp; try with_reducible rfl
    try simp only [Act.put, List.setIfInBounds_toArray, List.set_cons_zero, List.set_cons_succ]
    refine held_take (i := 26) (v := ?_) rfl (by kernel_rfl) (by kernel_rfl) (by kernel_rfl) (fun _ _ _ h => h) (Or.inl ⟨by rfl, ?_⟩) (by assumption) ?_
    rotate_left
    · intro w hSw; (try dsimp only at hSw); go_simp; try with_reducible rfl
    try simp only [Act.put, List.setIfInBounds_toArray, List.set_cons_zero, List.set_cons_succ]
    refine held_take (i := 27) (v := ?_) rfl (by kernel_rfl) (by kernel_rfl) (by kernel_rfl) (fun _ _ _ h => h) (Or.inl ⟨by rfl, ?_⟩) (by assumption) ?_
    rotate_left
    · intro w hSw; (try dsimp only at hSw); go_simp; try with_reducible rfl
    try simp only [Act.put, List.setIfInBounds_toArray, List.set_cons_zero, List.set_cons_succ]
    refine held_take (i := 28) (v := ?_) rfl (by kernel_rfl) (by kernel_rfl) (by kernel_rfl) (fun _ _ _ h => h) (Or.inl ⟨by rfl, ?_⟩) (by assumption) ?_
    rotate_left
    · intro w hSw; (try dsimp only at hSw); go_simp; try with_reducible rfl
    try simp only [Act.put, List.setIfInBounds_toArray, List.set_cons_zero, List.set_cons_succ]
    refine held_take (i := 29) (v := _) rfl (by kernel_rfl) (by kernel_rfl) (by kernel_rfl) (fun _ _ _ h => h) (yieldsIf_str (by rfl) rfl rfl (v := .slice a11 n m) (gB.out g7)) (by assumption) ?_
    try simp only [Act.put, List.setIfInBounds_toArray, List.set_cons_zero, List.set_cons_succ]
    refine held_take (i := 30) (v := ?_) rfl (by kernel_rfl) (by kernel_rfl) (by kernel_rfl) (fun _ _ _ h => h) (Or.inl ⟨by rfl, ?_⟩) (by assumption) ?_
    rotate_left
    · intro w hSw; (try dsimp only at hSw); go_simp; try with_reducible rfl
    try simp only [Act.put, List.setIfInBounds_toArray, List.set_cons_zero, List.set_cons_succ]
    refine held_take (i := 31) (v := _) rfl (by kernel_rfl) (by kernel_rfl) (by kernel_rfl) (fun _ _ _ h => h) (yieldsIf_str (by rfl) rfl rfl (v := .slice a9 n n) (gA.out g7)) (by assumption) ?_
    try simp only [Act.put, List.setIfInBounds_toArray, List.set_cons_zero, List.set_cons_succ]
    refine held_take (i := 32) (v := ?_) rfl (by kernel_rfl) (by kernel_rfl) (by kernel_rfl) (fun _ _ _ h => h) (Or.inl ⟨by rfl, ?_⟩) (by assumption) ?_
    rotate_left
    · intro w hSw; (try dsimp only at hSw); go_simp; try with_reducible rfl
    try simp only [Act.put, List.setIfInBounds_toArray, List.set_cons_zero, List.set_cons_succ]
    refine held_take (i := 33) (v := ?_) rfl (by kernel_rfl) (by kernel_rfl) (by kernel_rfl) (fun _ _ _ h => h) (Or.inl ⟨by rfl, ?_⟩) (by assumption) ?_
    rotate_left
    · intro w hSw; (try dsimp only at hSw); go_simp; try with_reducible rfl
    try simp only [Act.put, List.setIfInBounds_toArray, List.set_cons_zero, List.set_cons_succ]
    refine held_take (i := 34) (v := ?_) rfl (by kernel_rfl) (by kernel_rfl) (by kernel_rfl) (fun _ _ _ h => h) (Or.inl ⟨by rfl, ?_⟩) (by assumption) ?_
    rotate_left
    · intro w hSw; (try dsimp only at hSw); go_simp; try with_reducible rfl
    try simp only [Act.put, List.setIfInBounds_toArray, List.set_cons_zero, List.set_cons_succ]
    refine held_take (i := 35) (v := ?_) rfl (by kernel_rfl) (by kernel_rfl) (by kernel_rfl) (fun _ _ _ h => h) (Or.inl ⟨by rfl, ?_⟩) (by assumption) ?_
    rotate_left
    · intro w hSw; (try dsimp only at hSw); go_simp; try with_reducible rfl
    try simp only [Act.put, List.setIfInBounds_toArray, List.set_cons_zero, List.set_cons_succ]
    refine held_take (i := 36) (v := _) rfl (by kernel_rfl) (by kernel_rfl) (by kernel_rfl) (fun _ _ _ h => h) (yieldsIf_str (by rfl) rfl rfl (v := .slice a13 32 32) (gC.out g7)) (by assumption) ?_
    try simp only [Act.put, List.setIfInBounds_toArray, List.set_cons_zero, List.set_cons_succ]
    refine held_take (i := 37) (v := ?_) rfl (by kernel_rfl) (by kernel_rfl) (by kernel_rfl) (fun _ _ _ h => h) (Or.inl ⟨by rfl, ?_⟩) (by assumption) ?_
    rotate_left
    · intro w hSw; (try dsimp only at hSw); go_simp; try with_reducible rfl
    try simp only [Act.put, List.setIfInBounds_toArray, List.set_cons_zero, List.set_cons_succ]
    refine held_take (i := 38) (v := _) rfl (by kernel_rfl) (by kernel_rfl) (by kernel_rfl) (fun _ _ _ h => h) (yieldsIf_str (by rfl) rfl rfl (v := .slice (some ⟨g7, 0, none⟩) 32 32) (gM.out g7)) (by assumption) ?_
    try simp only [Act.put, List.setIfInBounds_toArray, List.set_cons_zero, List.set_cons_succ]
    refine held_take (i := 39) (v := ?_) rfl (by kernel_rfl) (by kernel_rfl) (by kernel_rfl) (fun _ _ _ h => h) (Or.inl ⟨by rfl, ?_⟩) (by assumption) ?_
    rotate_left
    · intro w hSw; (try dsimp only at hSw); go_simp; try with_reducible rfl
    try simp only [Act.put, List.setIfInBounds_toArray, List.set_cons_zero, List.set_cons_succ]
    refine held_take (i := 40) (v := ?_) rfl (by kernel_rfl) (by kernel_rfl) (by kernel_rfl) (fun _ _ _ h => h) (Or.inl ⟨by rfl, ?_⟩) (by assumption) ?_
    rotate_left
    · intro w hSw; (try dsimp only at hSw); go_simp; try with_reducible rfl
    try simp only [Act.put, List.setIfInBounds_toArray, List.set_cons_zero, List.set_cons_succ]
    refine held_take (i := 41) (v := ?_) rfl (by kernel_rfl) (by kernel_rfl) (by kernel_rfl) (fun _ _ _ h => h) (Or.inl ⟨by rfl, ?_⟩) (by assumption) ?_
    rotate_left
    · intro w hSw; (try dsimp only at hSw); go_simp; try with_reducible rfl
    try simp only [Act.put, List.setIfInBounds_toArray, List.set_cons_zero, List.set_cons_succ]
    refine wpAnyH_done (by kernel_rfl) ?_ _
    clear hHeld
    go_wp2_with fail
    go_ret
    exact ⟨rfl, low9.out⟩
end Go.Proofs.Ytjbmdeppoobccaa
