/-
  Law HashlogLives: a log tells the sums, and what it has, as the document says; nothing is shared. Condition: none but the texts' reading.
-/
import Derived.Test.YtjbmdeppoobccaaHashApart08
import Derived.Test.YtjbmdeppoobccaaRef08c
namespace Go.Proofs.Ytjbmdeppoobccaa
open Go.RowKit Go.Maps

/-- Each of n cells of a block holds a byte and may be written. -/
def SomeB (w : World) (g n : Nat) : Prop := ∀ j, j < n → ∃ x : Nat, x < 256 ∧ w.cell? ⟨g, j, none⟩ = some (.int .u8 (x : Int)) ∧ w.frozen? ⟨g, j, none⟩ = false
theorem SomeB.set {w : World} {g n : Nat} (h : SomeB w g n) (k x : Nat) (hx : x < 256) : SomeB (w.setCell ⟨g, k, none⟩ (.int .u8 (x : Int))) g n := fun j hj => by
  obtain ⟨y, h1, h2, h3⟩ := h j hj
  by_cases e : j = k
  · subst e
    exact ⟨x, hx, World.cell?_setCell_same _ _ _ h2, by rw [World.frozen?_setCell]; exact h3⟩
  · exact ⟨y, h1, by rw [World.cell?_setCell_other _ _ _ _ (fun e' => by cases e'; exact e rfl)]; exact h2, by rw [World.frozen?_setCell]; exact h3⟩
theorem SomeB.other {w w' : World} {g n : Nat} (h : SomeB w g n) (hh : w'.heap[g]? = w.heap[g]?) : SomeB w' g n := fun j hj => by
  obtain ⟨x, x1, x2, x3⟩ := h j hj
  exact ⟨x, x1, (World.cell?_of_block (a := ⟨g, j, none⟩) hh).trans x2, by unfold World.frozen? at x3 ⊢; rw [hh]; exact x3⟩
theorem row_text8 {w : World} {b ty : Nat} {t : List Nat} (h : RowB w b ty t) (hs : ∀ x ∈ t, x < 256) {n : Nat} (hn : t.length = n) : TextAt w (.slice (some ⟨b, 0, none⟩) n n) t := by
  subst hn
  refine ⟨some ⟨b, 0, none⟩, t.length, rfl, Nat.le_refl _, fun e => by simp at e, fun i hi => ⟨byt_lt hs i, b, 0, rfl, ?_⟩⟩
  rw [Nat.zero_add]
  exact h.cell (i := i) (x := byt t i) (by simp [byt, List.getD, hi])
theorem flip8 (x : Nat) (hx : x < 256) : bits .xor .u8 (x : Int) 255 = ((x ^^^ 255 : Nat) : Int) := u8_xor_nat x 255 hx (by decide)
theorem Own.somewhere {w : World} {base n : Nat} {e : TypeId} {ao : Option Addr} {cap : Nat} {xs : List Value} (h : Own w base e (.slice ao n cap) xs) (hs : ao ≠ none) : ∃ g, ao = some ⟨g, 0, none⟩ ∧ base ≤ g ∧ g < w.heap.size := by
  rcases h.2 with ⟨hv, _⟩ | ⟨g, cap', cur, hv, hb0, hgg, _⟩
  · cases hv; exact absurd rfl hs
  · cases hv; exact ⟨g, rfl, hb0, lt_of_block hgg⟩
theorem Own.someB {w : World} {base n g : Nat} {cap : Nat} {t : List Nat} (h : Own w base 5 (.slice (some ⟨g, 0, none⟩) n cap) (u8l t)) (ht : ∀ x ∈ t, x < 256) : SomeB w g t.length := fun j hj => by
  obtain ⟨ao, cap', e, _, _, _, _, hc⟩ := h.form
  cases e
  have hj' : (u8l t)[j]? = some (.int .u8 ((t[j]'hj : Nat) : Int)) := by simp [u8l, hj]
  obtain ⟨g', e, h1, h2⟩ := hc j _ hj'
  cases e
  exact ⟨t[j], ht _ (List.getElem_mem hj), h1, h2⟩

/-- The log and the reference's at work. -/
structure LivesSt (w wr : World) (F G : Nat → Prop) (b r : Nat) (v : Value) (T T' : List (List Nat)) : Prop where
  log : LogW w wr F b T
  ref : RefLog wr G r v T'
  inG : ∀ k, G k → w.heap.size ≤ k ∧ k < wr.heap.size
  dis : ∀ k, F k → ¬ G k
theorem LivesSt.below {w wr w' : World} {F G : Nat → Prop} {b r : Nat} {v : Value} {T T' : List (List Nat)} (h : LivesSt w wr F G b r v T T') (hB : Below wr.heap.size wr w') : LivesSt w w' F G b r v T T' :=
  ⟨h.log.below hB, h.ref.below hB, fun k hk => ⟨(h.inG k hk).1, Nat.lt_of_lt_of_le (h.inG k hk).2 hB.size⟩, h.dis⟩
theorem LivesSt.upd {w wr w' : World} {F G S : Nat → Prop} {b r : Nat} {v : Value} {T T' : List (List Nat)} (h : LivesSt w wr F G b r v T T') (hU : Upd S wr w') (hF : ∀ k, S k → ¬ F k) (hG : ∀ k, S k → ¬ G k) (hl : ∀ k, S k → w.heap.size ≤ k) : LivesSt w w' F G b r v T T' :=
  ⟨⟨h.log.log.upd hU (fun k hk hS => hF k hS hk), fun k hk => ⟨(h.log.inF k hk).1, Nat.lt_of_lt_of_le (h.log.inF k hk).2 hU.size⟩, h.log.low.trans (hU.below (fun k hk hS => by have := hl k hS; omega) h.log.low.size)⟩,
   h.ref.stay (fun k hk hlt => hU.block k hlt (fun hS => hG k hS hk)), fun k hk => ⟨(h.inG k hk).1, Nat.lt_of_lt_of_le (h.inG k hk).2 hU.size⟩, h.dis⟩
theorem LivesSt.sumX {w wr w' : World} {F G F' : Nat → Prop} {b r : Nat} {v : Value} {T T' T2 : List (List Nat)} (h : LivesSt w wr F G b r v T T') (h1 : LogAt w' F' b T2) (h2 : ∀ k, F' k → (F k ∨ wr.heap.size ≤ k) ∧ k < w'.heap.size) (h3 : Upd F wr w') : LivesSt w w' F' G b r v T2 T' := by
  refine ⟨h.log.sum h1 h2 h3, h.ref.stay (fun k hk hlt => h3.block k hlt (fun hF => h.dis k hF hk)), fun k hk => ⟨(h.inG k hk).1, Nat.lt_of_lt_of_le (h.inG k hk).2 h3.size⟩, fun k hk hg => ?_⟩
  rcases (h2 k hk).1 with h4 | h4
  · exact h.dis k h4 hg
  · have := (h.inG k hg).2; omega
theorem LivesSt.sumY {w wr w' : World} {F G G' : Nat → Prop} {b r : Nat} {v v' : Value} {T T' T2 : List (List Nat)} (h : LivesSt w wr F G b r v T T') (h1 : RefLog w' G' r v' T2) (h2 : ∀ k, G' k → (G k ∨ wr.heap.size ≤ k) ∧ k < w'.heap.size) (h3 : Upd G wr w') : LivesSt w w' F G' b r v' T T2 := by
  refine ⟨⟨h.log.log.upd h3 (fun k hk hS => h.dis k hk hS), fun k hk => ⟨(h.log.inF k hk).1, Nat.lt_of_lt_of_le (h.log.inF k hk).2 h3.size⟩, h.log.low.trans (h3.below (fun k hk hS => by have := (h.inG k hS).1; omega) h.log.low.size)⟩, h1, fun k hk => ⟨?_, (h2 k hk).2⟩, fun k hk hg => ?_⟩
  · rcases (h2 k hk).1 with h4 | h4
    · exact (h.inG k h4).1
    · exact Nat.le_trans h.log.low.size h4
  · rcases (h2 k hg).1 with h4 | h4
    · exact h.dis k hk h4
    · have := (h.log.inF k hk).2; omega

/-- What stays while a round asks. -/
structure LvSt (w : World) (g ob oo k : Nat) (vt va : Value) (t ask : List Nat) : Prop where
  s : RowB w g 27 (sumOf t)
  ck : w.cell? ⟨ob, oo + k, none⟩ = some vt
  tt : TextAt w vt t
  ta : TextAt w va ask
theorem LvSt.of {w0 w : World} {g ob oo k : Nat} {vt va : Value} {t ask : List Nat} (h : Below w0.heap.size w0 w) (s : RowB w g 27 (sumOf t)) (c : w0.cell? ⟨ob, oo + k, none⟩ = some vt) (tt : TextAt w0 vt t) (ta : TextAt w0 va ask) : LvSt w g ob oo k vt va t ask :=
  ⟨s, (h.cell (block_lt_of_cell c)).trans c, tt.below h, ta.below h⟩
/-- What stays while the clash is asked. -/
structure FinSt (w : World) (r ob oo i j : Nat) (v v1 v2 vi vj : Value) (p q : List Nat) : Prop where
  c : w.cell? ⟨r, 0, none⟩ = some v
  x : TextAt w v1 p
  y : TextAt w v2 q
  ci : w.cell? ⟨ob, oo + i, none⟩ = some vi
  ti : TextAt w vi p
  cj : w.cell? ⟨ob, oo + j, none⟩ = some vj
  tj : TextAt w vj q
theorem FinSt.below {w w' : World} {r ob oo i j : Nat} {v v1 v2 vi vj : Value} {p q : List Nat} (h : FinSt w r ob oo i j v v1 v2 vi vj p q) (hB : Below w.heap.size w w') : FinSt w' r ob oo i j v v1 v2 vi vj p q :=
  ⟨(hB.cell (block_lt_of_cell h.c)).trans h.c, h.x.below hB, h.y.below hB, (hB.cell (block_lt_of_cell h.ci)).trans h.ci, h.ti.below hB, (hB.cell (block_lt_of_cell h.cj)).trans h.cj, h.tj.below hB⟩

set_option maxRecDepth 100000 in
set_option maxHeartbeats 4000000 in
theorem hashlogLives_any (w : World) (ao : Option Addr) (cap : Nat) (ls : List (List Nat)) (hc : ls.length ≤ cap) (h : TextsAt w ao ls) (hls : ls.length < 9223372036854775808) (va : Value) (ta : List Nat) (ha : TextAt w va ta) (hla : ta.length < 9223372036854775808) :
    Calls Try.prog 12 #[.slice ao ls.length cap, va] w fun e w' => e = .returned (.bool true) ∧ Below w.heap.size w w' := by
  obtain ⟨aa, ca, rfl, _⟩ := ha.ex
  obtain ⟨n, en⟩ : ∃ n, n = ls.length := ⟨_, rfl⟩
  obtain ⟨ma, ea⟩ : ∃ m, m = ta.length := ⟨_, rfl⟩
  rw [← en] at hc hls ⊢
  rw [← ea] at ha hla ⊢
  have al := Lib.hid (fun x => alive08 x)
  replace h := Lib.hid h
  replace ha := Lib.hid ha
  replace en := Lib.hid en
  replace ea := Lib.hid ea
  by_cases g : 40 < n
  · have d : decide ((n : Int) > 40) = true := decide_eq_true (by omega)
    go_enter Try.func12, Try.ntmps12
    go_wp2_with fail
    refine (al.out w).mono ?_
    rintro e w2 ⟨rfl, B2⟩
    go_wp2_with fail
    go_ret
    exact ⟨rfl, B2⟩
  have d : decide ((n : Int) > 40) = false := decide_eq_false (by omega)
  by_cases g1 : 300 < ma
  · have d1 : decide ((ma : Int) > 300) = true := decide_eq_true (by omega)
    go_enter Try.func12, Try.ntmps12
    go_wp2_with fail
    refine (al.out w).mono ?_
    rintro e w2 ⟨rfl, B2⟩
    go_wp2_with fail
    go_ret
    exact ⟨rfl, B2⟩
  have d1 : decide ((ma : Int) > 300) = false := decide_eq_false (by omega)
  go_enter Try.func12, Try.ntmps12
  go_wp2_with fail
  refine (lnew_any w).mono ?_
  rintro e w1 ⟨b, rfl, l1, B1⟩
  have L0 : LogW w w1 (fun k => w.heap.size ≤ k ∧ k < w1.heap.size) b (keepTo ls 0) := ⟨l1.tight, fun k hk => hk, B1⟩
  have S0 : LivesSt w (w1.alloc (.cells #[.slice none 0 0] 64)) (fun k => w.heap.size ≤ k ∧ k < w1.heap.size) (fun k => k = w1.heap.size) b w1.heap.size (.slice none 0 0) (keepTo ls 0) (keepTo ls 0) :=
    ⟨L0.below ((Below.refl _ _).alloc (Nat.le_refl _) _), ⟨heap_alloc_new _ _, RowT.nil _ _, rfl⟩, fun k hk => by rw [hk]; exact ⟨B1.size, by simp⟩, fun k hk => by omega⟩
  clear l1 B1 L0
  replace S0 := Lib.hid S0
  go_wp2_with fail
  go_loopw [7] (fun i wr => ∃ (k : Nat) (F G : Nat → Prop) (v : Value), k ≤ n ∧ i = .int .i64 k ∧ LivesSt w wr F G b w1.heap.size v (keepTo ls k) (keepTo ls k) ∧ ∀ j, j < k → (ls.getD j []).length ≤ 300) (fun i _ => n - (intOf i).toNat)
  case atStart => exact ⟨0, _, _, _, Nat.zero_le _, rfl, S0.out, fun j hj => by omega⟩
  case round =>
    obtain ⟨k, F, G, v, hk, rfl, hL, hs⟩ := hrel
    clear S0
    generalize w1.heap.size = r at *
    by_cases hlt : k < n
    · obtain ⟨ob, oo, ai, ci, rfl, c1, t1⟩ := h.out.at (k := k) (by rw [← en.out]; exact hlt)
      have c1' := (hL.log.low.cell (block_lt_of_cell c1)).trans c1
      have t1' := t1.below hL.log.low
      have lk := length_keep ls k
      obtain ⟨t, et⟩ : ∃ t, t = ls.getD k [] := ⟨_, rfl⟩
      rw [← et] at c1 c1' t1 t1'
      obtain ⟨m, em⟩ : ∃ m, m = t.length := ⟨_, rfl⟩
      rw [← em] at c1 c1' t1 t1'
      by_cases g3 : 300 < m
      · have d3 : decide ((m : Int) > 300) = true := decide_eq_true (by omega)
        replace hL := Lib.hid hL
        replace hs := Lib.hid hs
        replace t1 := Lib.hid t1
        replace t1' := Lib.hid t1'
        replace et := Lib.hid et
        replace em := Lib.hid em
        replace c1 := Lib.hid c1
        replace lk := Lib.hid lk
        go_wp2_with fail
        refine (al.out _).mono ?_
        rintro e w2 ⟨rfl, B2⟩
        have low2 := hL.out.log.low.trans (B2.mono hL.out.log.low.size)
        replace low2 := Lib.hid low2
        replace B2 := Lib.hid B2
        go_wp2_with fail
        go_ret
        exact ⟨rfl, low2.out⟩
      have d3 : decide ((m : Int) > 300) = false := decide_eq_false (by omega)
      have hs' : ∀ j, j < k + 1 → (ls.getD j []).length ≤ 300 := fun j hj => by
        by_cases e : j = k
        · subst e; rw [← et]; omega
        · exact hs j (by omega)
      have ekeep : keepTo ls (k + 1) = addT (keepTo ls k) t := by rw [et]; rfl
      obtain ⟨T, eT⟩ : ∃ T, T = keepTo ls k := ⟨_, rfl⟩
      rw [← eT] at hL lk ekeep
      have sm := t1.small
      have hlen : ([] ++ t).length ≤ 1000000000 := by simp; omega
      have m9 : m ≤ 300 := by omega
      have c1l : ob < wr.heap.size := block_lt_of_cell c1'
      replace hL := Lib.hid hL
      replace hs := Lib.hid hs
      replace hs' := Lib.hid hs'
      replace t1 := Lib.hid t1
      replace t1' := Lib.hid t1'
      replace et := Lib.hid et
      replace em := Lib.hid em
      replace c1 := Lib.hid c1
      replace lk := Lib.hid lk
      replace ekeep := Lib.hid ekeep
      replace eT := Lib.hid eT
      replace sm := Lib.hid sm
      replace hlen := Lib.hid hlen
      go_wp2_with (at_builtin; refine wpList_append_t (by rfl) (.tmp 42) (.tmp 46) rfl wr.heap.size wr (.slice (some ⟨wr.heap.size, 0, none⟩) 0 0) [] rfl (Own.empty _ (Nat.le_refl _)) ((Below.refl _ _).alloc (Nat.le_refl _) _) (by simp) (.slice ai m ci) t rfl (t1'.out.alloc _) (by have := hlen.out; simpa using this) ?_; intro v2 w2 O2 B2 _ hblk)
      have hv2 : ∃ g c2, v2 = .slice (some ⟨g, 0, none⟩) m c2 ∧ wr.heap.size ≤ g ∧ g < w2.heap.size ∧ m ≤ c2 := by
        obtain ⟨a2, c2, e2, q1, _, q2, q3, _⟩ := O2.out.form
        rw [show (u8l ([] ++ t)).length = m by rw [em.out]; simp [u8l]] at e2 q1 q2
        have hne : a2 ≠ none := fun e => by
          rw [e2, e] at hblk
          rcases hblk.out with h | h <;> simp [Value.ownBlock] at h
        subst e2
        obtain ⟨g, rfl, g1, g2⟩ := O2.out.somewhere hne
        exact ⟨g, c2, rfl, g1, g2, q1⟩
      obtain ⟨g, c2, rfl, hg1, hg2, hdc⟩ := hv2
      have O2' : Own w2 wr.heap.size 5 (.slice (some ⟨g, 0, none⟩) m c2) (u8l t) := O2.out
      have T2 := O2'.text sm.out
      have SB2 := O2'.someB sm.out
      rw [← em.out] at SB2
      have L2 := hL.out.below B2.out
      have hgF : ∀ k, F k → k < wr.heap.size := fun k hk => (hL.out.log.inF k hk).2
      have hgG : ∀ k, G k → k < wr.heap.size := fun k hk => (hL.out.inG k hk).2
      have wlo := hL.out.log.low.size
      have cx := lsum_st L2.log.log _ t T2 (by rw [← em.out]; omega) (by have := lk.out; omega)
      generalize wr.heap.size = hr at *
      clear O2 B2 hblk O2' hL
      replace T2 := Lib.hid T2
      replace SB2 := Lib.hid SB2
      replace L2 := Lib.hid L2
      replace hgF := Lib.hid hgF
      replace hgG := Lib.hid hgG
      replace cx := Lib.hid cx
      refine cx.out.mono ?_
      rintro e w3 ⟨rfl, F3, l3, f3, U3⟩
      have L3 := L2.out.sumX l3 f3 U3
      have SB3 := SB2.out.other (U3.block g hg2 (fun hF => by have := hgF.out g hF; omega))
      have hg3 : g < w3.heap.size := Nat.lt_of_lt_of_le hg2 U3.size
      have gF3 : ¬ F3 g := fun hF => by
        rcases (f3 g hF).1 with h4 | h4
        · have := hgF.out g h4; omega
        · omega
      have gG3 : ¬ G g := fun hG => by have := hgG.out g hG; omega
      have is := infoSum t
      have zs := zeroSum t
      clear l3 f3 U3 cx L2 SB2 T2
      replace L3 := Lib.hid L3
      replace SB3 := Lib.hid SB3
      replace gF3 := Lib.hid gF3
      replace gG3 := Lib.hid gG3
      go_wp2_with (refine wpList_store_n (by rfl) 27 (.tmp 9) (.tmp 50) rfl (sumOf t) rfl rfl is zs ?_; intro w5 R5 B5)
      have L5 := L3.out.below B5.out
      have SB5 := SB3.out.other (B5.out.block g hg3)
      have R5' : RowB w5 w3.heap.size 27 (sumOf t) := R5.out
      have g9F : ¬ F3 w3.heap.size := fun hF => by have := (L3.out.log.inF _ hF).2; omega
      have hgs : g ≠ w3.heap.size := by omega
      generalize w3.heap.size = gs at *
      clear L3 SB3 B5 R5
      replace L5 := Lib.hid L5
      replace SB5 := Lib.hid SB5
      replace R5' := Lib.hid R5'
      obtain ⟨wq, rfl⟩ : ∃ wq : World, wq = w5 := ⟨_, rfl⟩
      obtain ⟨wo, rfl⟩ : ∃ wo : World, wo = wr := ⟨_, rfl⟩
      go_wp2_with fail
      go_loopw [10] (fun i wr' => ∃ j : Nat, j ≤ m ∧ i = .int .i64 j ∧ SomeB wr' g m ∧ Upd (fun i => i = g) wq wr') (fun i _ => m - (intOf i).toNat)
      case atStart => exact ⟨0, Nat.zero_le _, rfl, SB5.out, Upd.refl _ _⟩
      case round =>
        obtain ⟨j, hj, rfl, hS, hU⟩ := hrel
        by_cases hjt : j < m
        · obtain ⟨x, hx, hcx, hfx⟩ := hS j hjt
          have hfl := flip8 x hx
          have hx2 : x ^^^ 255 < 256 := Nat.xor_lt_two_pow (n := 8) hx (by decide)
          have nS := hS.set j _ hx2
          have nU := hU.setCell ⟨g, j, none⟩ (.int .u8 ((x ^^^ 255 : Nat) : Int)) (fun _ => rfl)
          generalize x ^^^ 255 = y at *
          replace hS := Lib.hid hS
          replace hU := Lib.hid hU
          replace nS := Lib.hid nS
          replace nU := Lib.hid nU
          go_wp2_with fail
          go_roundw
          case rel => exact ⟨j + 1, by omega, by go_num, nS.out, nU.out⟩
          case measure => simp [intOf]; omega
        · obtain rfl : j = m := by omega
          obtain ⟨w6, rfl⟩ : ∃ w6 : World, w6 = wr := ⟨_, rfl⟩
          have L6 := L5.out.upd hU (fun k hk => by rw [hk]; exact gF3.out) (fun k hk => by rw [hk]; exact gG3.out) (fun k hk => by omega)
          have R6 := R5'.out.other (hU.block _ R5'.out.lt (fun e => hgs e.symm))
          have L7 : LivesSt w w6.drew F3 G b r v (addT T t) T := L6.below (Below.refl _ _).drew
          have S7 : LvSt w6.drew gs ob oo k (.slice ai j ci) (.slice aa ma ca) t ta := LvSt.of L7.log.low R6 c1.out t1.out ha.out
          have cy := r8sum_any L7.ref L7.log.low L7.inG (.slice ai j ci) t t1.out (by rw [← em.out]; omega) (by have := lk.out; omega)
          have toS : ∀ w', Below w.heap.size w w' → RowB w' gs 27 (sumOf t) → LvSt w' gs ob oo k (.slice ai j ci) (.slice aa ma ca) t ta := fun w' h1 h2 => LvSt.of h1 h2 c1.out t1.out ha.out
          have TS : ∀ w', LvSt w' gs ob oo k (.slice ai j ci) (.slice aa ma ca) t ta → TextAt w' (.slice (some ⟨gs, 0, none⟩) 32 32) (sumOf t) := fun w' h => row_text8 h.s (sumOf_lt t) (length_sumOf t)
          have gk : ∀ w', LvSt w' gs ob oo k (.slice ai j ci) (.slice aa ma ca) t ta → w'.cell? ⟨ob, oo + k, none⟩ = some (.slice ai j ci) := fun w' h => h.ck
          have kn : (k : Int) < (n : Int) := by omega
          have ln7 : (addT T t).length ≤ 41 := by rw [length_addT]; have := lk.out; split <;> omega
          have gG9 : ¬ G gs := fun hG => by have := hgG.out gs hG; have := hg1; omega
          have jl : decide ((j : Int) < (j : Int)) = false := decide_eq_false (by omega)
          replace L6 := Lib.hid L6
          replace R6 := Lib.hid R6
          replace L7 := Lib.hid L7
          replace S7 := Lib.hid S7
          replace cy := Lib.hid cy
          replace toS := Lib.hid toS
          replace TS := Lib.hid TS
          replace hS := Lib.hid hS
          replace hU := Lib.hid hU
          replace ln7 := Lib.hid ln7
          replace gG9 := Lib.hid gG9
          clear SB5 L5 R5'
          go_wp2_with fail
          refine wp_region_held_drew (S := (fun w' => LvSt w' gs ob oo k (.slice ai j ci) (.slice aa ma ca) t ta)) (by kernel_rfl) (S7.out) (fun hHeld => ?_)
          refine held_take (i := 0) (v := ?_) rfl (by kernel_rfl) (by kernel_rfl) (by kernel_rfl) (fun _ _ _ h => h) (Or.inl ⟨by rfl, ?_⟩) (by assumption) ?_
          rotate_left
          · intro w hSw; (try dsimp only at hSw); go_simp; try with_reducible rfl
          try simp only [Act.put, List.setIfInBounds_toArray, List.set_cons_zero, List.set_cons_succ]
          refine held_take (i := 1) (v := _) rfl (by kernel_rfl) (by kernel_rfl) (by kernel_rfl) (fun _ _ _ h => h) (yieldsIf_str (by rfl) rfl rfl (v := .slice (some ⟨gs, 0, none⟩) 32 32) TS.out) (by assumption) ?_
          try simp only [Act.put, List.setIfInBounds_toArray, List.set_cons_zero, List.set_cons_succ]
          refine held_take (i := 2) (v := ?_) rfl (by kernel_rfl) (by kernel_rfl) (by kernel_rfl) (fun _ _ _ h => h) (Or.inl ⟨by rfl, ?_⟩) (by assumption) ?_
          rotate_left
          · intro w hSw; (try dsimp only at hSw); go_simp; try with_reducible rfl
          try simp only [Act.put, List.setIfInBounds_toArray, List.set_cons_zero, List.set_cons_succ]
          refine held_take (i := 3) (v := ?_) rfl (by kernel_rfl) (by kernel_rfl) (by kernel_rfl) (fun _ _ _ h => h) (Or.inl ⟨by rfl, ?_⟩) (by assumption) ?_
          rotate_left
          · intro w hSw; (try dsimp only at hSw); go_simp; try with_reducible rfl
          try simp only [Act.put, List.setIfInBounds_toArray, List.set_cons_zero, List.set_cons_succ]
          refine held_take (i := 4) (v := ?_) rfl (by kernel_rfl) (by kernel_rfl) (by kernel_rfl) (fun _ _ _ h => h) (Or.inl ⟨by rfl, ?_⟩) (by assumption) ?_
          rotate_left
          · intro w hSw; (try dsimp only at hSw); go_simp; try with_reducible rfl
          try simp only [Act.put, List.setIfInBounds_toArray, List.set_cons_zero, List.set_cons_succ]
          refine held_take (i := 5) (v := ?_) rfl (by kernel_rfl) (by kernel_rfl) (by kernel_rfl) (fun _ _ _ h => h) (Or.inl ⟨by rfl, ?_⟩) (by assumption) ?_
          rotate_left
          · intro w hSw; (try dsimp only at hSw); go_simp; try with_reducible rfl
          try simp only [Act.put, List.setIfInBounds_toArray, List.set_cons_zero, List.set_cons_succ]
          refine held_take (i := 6) (v := ?_) rfl (by kernel_rfl) (by kernel_rfl) (by kernel_rfl) (fun _ _ _ h => h) (Or.inl ⟨by rfl, ?_⟩) (by assumption) ?_
          rotate_left
          · intro w hSw; (try dsimp only at hSw); go_simp; try with_reducible rfl
          try simp only [Act.put, List.setIfInBounds_toArray, List.set_cons_zero, List.set_cons_succ]
          refine held_ready (i := 7) rfl (by kernel_rfl) (fun K hK => ?_)
          go_simp
          refine cy.out.mono ?_
          rintro e w8 ⟨vs, G8, v8, rfl, o8, r8, f8, U8⟩
          have L8 := L7.out.sumY r8 f8 U8
          have S8 := toS.out _ L8.log.low (S7.out.s.other (U8.block _ S7.out.s.lt gG9.out))
          have cc := lcount_any L8.log.log
          have ch := lhas_st L8.log.log (.slice aa ma ca) ta S8.ta (by rw [← ea.out]; omega) (by have := ln7.out; omega)
          obtain ⟨a8, c8, e8, q1, q2, q3⟩ := L8.ref.list.texts
          obtain ⟨N, eN⟩ : ∃ N, N = (addT T t).length := ⟨_, rfl⟩
          rw [← eN] at e8 q1 cc
          subst e8
          have cel8 : w8.cell? ⟨r, 0, none⟩ = some (.slice a8 N c8) := (cell_of_row _ _ 0 _ _ _ L8.ref.row).trans rfl
          have run8 := run_str (o8.text (sumOf_lt t))
          obtain ⟨B, eB⟩ : ∃ B, B = decide (ta ∈ addT T t) := ⟨_, rfl⟩
          rw [← eB] at ch
          clear r8 f8 U8 q1 q2 q3 cy L6 R6 L7 S7
          replace L8 := Lib.hid L8
          replace S8 := Lib.hid S8
          replace cc := Lib.hid cc
          replace ch := Lib.hid ch
          replace eN := Lib.hid eN
          replace eB := Lib.hid eB
          replace o8 := Lib.hid o8
          refine hK.out _ _ (S8.out) (fun hHeldN => ?_)
          clear hHeld hK K
          have hHeld := hHeldN
          clear hHeldN
          try simp only [Act.put, List.setIfInBounds_toArray, List.set_cons_zero, List.set_cons_succ]
          refine held_ready (i := 8) rfl (by kernel_rfl) (fun K hK => ?_)
          go_simp
          refine hK.out _ _ (S8.out) (fun hHeldN => ?_)
          clear hHeld hK K
          have hHeld := hHeldN
          clear hHeldN
          try simp only [Act.put, List.setIfInBounds_toArray, List.set_cons_zero, List.set_cons_succ]
          refine held_take (i := 9) (v := ?_) rfl (by kernel_rfl) (by kernel_rfl) (by kernel_rfl) (fun _ _ _ h => h) (Or.inl ⟨by rfl, ?_⟩) (by assumption) ?_
          rotate_left
          · intro w hSw; (try dsimp only at hSw); go_simp; try with_reducible rfl
          try simp only [Act.put, List.setIfInBounds_toArray, List.set_cons_zero, List.set_cons_succ]
          refine held_take (i := 10) (v := ?_) rfl (by kernel_rfl) (by kernel_rfl) (by kernel_rfl) (fun _ _ _ h => h) (Or.inl ⟨by rfl, ?_⟩) (by assumption) ?_
          rotate_left
          · intro w hSw; (try dsimp only at hSw); go_simp; try with_reducible rfl
          try simp only [Act.put, List.setIfInBounds_toArray, List.set_cons_zero, List.set_cons_succ]
          refine held_take (i := 11) (v := ?_) rfl (by kernel_rfl) (by kernel_rfl) (by kernel_rfl) (fun _ _ _ h => h) (Or.inl ⟨by rfl, ?_⟩) (by assumption) ?_
          rotate_left
          · intro w hSw; (try dsimp only at hSw); go_simp; try with_reducible rfl
          try simp only [Act.put, List.setIfInBounds_toArray, List.set_cons_zero, List.set_cons_succ]
          refine held_take (i := 13) (v := ?_) rfl (by kernel_rfl) (by kernel_rfl) (by kernel_rfl) (fun _ _ _ h => h) (Or.inl ⟨by rfl, ?_⟩) (by assumption) ?_
          rotate_left
          · intro w hSw; (try dsimp only at hSw); go_simp; try with_reducible rfl
          try simp only [Act.put, List.setIfInBounds_toArray, List.set_cons_zero, List.set_cons_succ]
          refine held_take (i := 14) (v := ?_) rfl (by kernel_rfl) (by kernel_rfl) (by kernel_rfl) (fun _ _ _ h => h) (Or.inl ⟨by rfl, ?_⟩) (by assumption) ?_
          rotate_left
          · intro w hSw; (try dsimp only at hSw); go_simp; try with_reducible rfl
          try simp only [Act.put, List.setIfInBounds_toArray, List.set_cons_zero, List.set_cons_succ]
          refine held_take (i := 15) (v := ?_) rfl (by kernel_rfl) (by kernel_rfl) (by kernel_rfl) (fun _ _ _ h => h) (Or.inl ⟨by rfl, ?_⟩) (by assumption) ?_
          rotate_left
          · intro w hSw; (try dsimp only at hSw); go_simp; try with_reducible rfl
          try simp only [Act.put, List.setIfInBounds_toArray, List.set_cons_zero, List.set_cons_succ]
          refine held_ready2 (i := 12) (j := 16) rfl rfl (by kernel_rfl) (fun K hK => ?_) (fun K hK => ?_)
          · go_simp
            refine cc.out.mono ?_
            rintro e w8' ⟨rfl, rfl⟩
            refine hK.out _ _ (S8.out) (fun hHeldN => ?_)
            clear hHeld hK K
            have hHeld := hHeldN
            clear hHeldN
            try simp only [Act.put, List.setIfInBounds_toArray, List.set_cons_zero, List.set_cons_succ]
            refine held_ready (i := 16) rfl (by kernel_rfl) (fun K hK => ?_)
            go_simp
            refine hK.out _ _ (S8.out) (fun hHeldN => ?_)
            clear hHeld hK K
            have hHeld := hHeldN
            clear hHeldN
            try simp only [Act.put, List.setIfInBounds_toArray, List.set_cons_zero, List.set_cons_succ]
            refine held_take (i := 17) (v := ?_) rfl (by kernel_rfl) (by kernel_rfl) (by kernel_rfl) (fun _ _ _ h => h) (Or.inl ⟨by rfl, ?_⟩) (by assumption) ?_
            rotate_left
            · intro w hSw; (try dsimp only at hSw); go_simp; try with_reducible rfl
            try simp only [Act.put, List.setIfInBounds_toArray, List.set_cons_zero, List.set_cons_succ]
            refine held_take (i := 18) (v := ?_) rfl (by kernel_rfl) (by kernel_rfl) (by kernel_rfl) (fun _ _ _ h => h) (Or.inl ⟨by rfl, ?_⟩) (by assumption) ?_
            rotate_left
            · intro w hSw; (try dsimp only at hSw); go_simp; try with_reducible rfl
            try simp only [Act.put, List.setIfInBounds_toArray, List.set_cons_zero, List.set_cons_succ]
            refine held_take (i := 19) (v := ?_) rfl (by kernel_rfl) (by kernel_rfl) (by kernel_rfl) (fun _ _ _ h => h) (Or.inl ⟨by rfl, ?_⟩) (by assumption) ?_
            rotate_left
            · intro w hSw; (try dsimp only at hSw); go_simp; try with_reducible rfl
            try simp only [Act.put, List.setIfInBounds_toArray, List.set_cons_zero, List.set_cons_succ]
            refine held_take (i := 20) (v := ?_) rfl (by kernel_rfl) (by kernel_rfl) (by kernel_rfl) (fun _ _ _ h => h) (Or.inl ⟨by rfl, ?_⟩) (by assumption) ?_
            rotate_left
            · intro w hSw; (try dsimp only at hSw); go_simp; try with_reducible rfl
            try simp only [Act.put, List.setIfInBounds_toArray, List.set_cons_zero, List.set_cons_succ]
            refine held_take (i := 21) (v := ?_) rfl (by kernel_rfl) (by kernel_rfl) (by kernel_rfl) (fun _ _ _ h => h) (Or.inl ⟨by rfl, ?_⟩) (by assumption) ?_
            rotate_left
            · intro w hSw; (try dsimp only at hSw); go_simp; try with_reducible rfl
            try simp only [Act.put, List.setIfInBounds_toArray, List.set_cons_zero, List.set_cons_succ]
            refine held_take (i := 22) (v := ?_) rfl (by kernel_rfl) (by kernel_rfl) (by kernel_rfl) (fun _ _ _ h => h) (Or.inl ⟨by rfl, ?_⟩) (by assumption) ?_
            rotate_left
            · intro w hSw; (try dsimp only at hSw); go_simp; try with_reducible rfl
            try simp only [Act.put, List.setIfInBounds_toArray, List.set_cons_zero, List.set_cons_succ]
            refine held_take (i := 24) (v := ?_) rfl (by kernel_rfl) (by kernel_rfl) (by kernel_rfl) (fun _ _ _ h => h) (Or.inl ⟨by rfl, ?_⟩) (by assumption) ?_
            rotate_left
            · intro w hSw; (try dsimp only at hSw); go_simp; try with_reducible rfl
            try simp only [Act.put, List.setIfInBounds_toArray, List.set_cons_zero, List.set_cons_succ]
            refine held_take (i := 25) (v := ?_) rfl (by kernel_rfl) (by kernel_rfl) (by kernel_rfl) (fun _ _ _ h => h) (Or.inl ⟨by rfl, ?_⟩) (by assumption) ?_
            rotate_left
            · intro w hSw; (try dsimp only at hSw); go_simp; try with_reducible rfl
            try simp only [Act.put, List.setIfInBounds_toArray, List.set_cons_zero, List.set_cons_succ]
            refine held_ready (i := 23) rfl (by kernel_rfl) (fun K hK => ?_)
            go_simp
            refine ch.out.mono ?_
            rintro e w9 ⟨rfl, B9⟩
            have L9 := L8.out.below B9
            have S9 := toS.out _ L9.log.low (S8.out.s.below B9 S8.out.s.lt)
            have cr := r8has_any L9.ref (.slice aa ma ca) ta S9.ta (by have := ln7.out; omega)
            rw [← eB.out] at cr
            replace L9 := Lib.hid L9
            replace S9 := Lib.hid S9
            replace B9 := Lib.hid B9
            replace cr := Lib.hid cr
            clear S8 L8 ch
            refine hK.out _ _ (S9.out) (fun hHeldN => ?_)
            clear hHeld hK K
            have hHeld := hHeldN
            clear hHeldN
            try simp only [Act.put, List.setIfInBounds_toArray, List.set_cons_zero, List.set_cons_succ]
            refine held_ready (i := 26) rfl (by kernel_rfl) (fun K hK => ?_)
            go_simp
            refine cr.out.mono ?_
            rintro e w10 ⟨rfl, B10⟩
            have L10 := L9.out.below B10
            have S10 := toS.out _ L10.log.low (S9.out.s.below B10 S9.out.s.lt)
            replace L10 := Lib.hid L10
            replace S10 := Lib.hid S10
            replace B10 := Lib.hid B10
            clear S9 L9 cr
            refine hK.out _ _ (S10.out) (fun hHeldN => ?_)
            clear hHeld hK K
            have hHeld := hHeldN
            clear hHeldN
            try simp only [Act.put, List.setIfInBounds_toArray, List.set_cons_zero, List.set_cons_succ]
            refine held_take (i := 27) (v := ?_) rfl (by kernel_rfl) (by kernel_rfl) (by kernel_rfl) (fun _ _ _ h => h) (Or.inl ⟨by rfl, ?_⟩) (by assumption) ?_
            rotate_left
            · intro w hSw; (try dsimp only at hSw); go_simp; try with_reducible rfl
            try simp only [Act.put, List.setIfInBounds_toArray, List.set_cons_zero, List.set_cons_succ]
            refine held_take (i := 28) (v := ?_) rfl (by kernel_rfl) (by kernel_rfl) (by kernel_rfl) (fun _ _ _ h => h) (Or.inl ⟨by rfl, ?_⟩) (by assumption) ?_
            rotate_left
            · intro w hSw; (try dsimp only at hSw); go_simp; try with_reducible rfl
            try simp only [Act.put, List.setIfInBounds_toArray, List.set_cons_zero, List.set_cons_succ]
            refine wpAnyH_done (by kernel_rfl) ?_ _
            clear hHeld
            rw [← ekeep.out] at L10
            go_wp2_with fail
            go_roundw
            case rel => exact ⟨k + 1, F3, G8, .slice a8 N c8, by omega, by go_num, L10.out, hs'.out⟩
            case measure => simp [intOf]; omega
          · go_simp
            refine hK.out _ _ (S8.out) (fun hHeldN => ?_)
            clear hHeld hK K
            have hHeld := hHeldN
            clear hHeldN
            try simp only [Act.put, List.setIfInBounds_toArray, List.set_cons_zero, List.set_cons_succ]
            refine held_take (i := 17) (v := ?_) rfl (by kernel_rfl) (by kernel_rfl) (by kernel_rfl) (fun _ _ _ h => h) (Or.inl ⟨by rfl, ?_⟩) (by assumption) ?_
            rotate_left
            · intro w hSw; (try dsimp only at hSw); go_simp; try with_reducible rfl
            try simp only [Act.put, List.setIfInBounds_toArray, List.set_cons_zero, List.set_cons_succ]
            refine held_ready (i := 12) rfl (by kernel_rfl) (fun K hK => ?_)
            go_simp
            refine cc.out.mono ?_
            rintro e w8' ⟨rfl, rfl⟩
            refine hK.out _ _ (S8.out) (fun hHeldN => ?_)
            clear hHeld hK K
            have hHeld := hHeldN
            clear hHeldN
            try simp only [Act.put, List.setIfInBounds_toArray, List.set_cons_zero, List.set_cons_succ]
            refine held_take (i := 18) (v := ?_) rfl (by kernel_rfl) (by kernel_rfl) (by kernel_rfl) (fun _ _ _ h => h) (Or.inl ⟨by rfl, ?_⟩) (by assumption) ?_
            rotate_left
            · intro w hSw; (try dsimp only at hSw); go_simp; try with_reducible rfl
            try simp only [Act.put, List.setIfInBounds_toArray, List.set_cons_zero, List.set_cons_succ]
            refine held_take (i := 19) (v := ?_) rfl (by kernel_rfl) (by kernel_rfl) (by kernel_rfl) (fun _ _ _ h => h) (Or.inl ⟨by rfl, ?_⟩) (by assumption) ?_
            rotate_left
            · intro w hSw; (try dsimp only at hSw); go_simp; try with_reducible rfl
            try simp only [Act.put, List.setIfInBounds_toArray, List.set_cons_zero, List.set_cons_succ]
            refine held_take (i := 20) (v := ?_) rfl (by kernel_rfl) (by kernel_rfl) (by kernel_rfl) (fun _ _ _ h => h) (Or.inl ⟨by rfl, ?_⟩) (by assumption) ?_
            rotate_left
            · intro w hSw; (try dsimp only at hSw); go_simp; try with_reducible rfl
            try simp only [Act.put, List.setIfInBounds_toArray, List.set_cons_zero, List.set_cons_succ]
            refine held_take (i := 21) (v := ?_) rfl (by kernel_rfl) (by kernel_rfl) (by kernel_rfl) (fun _ _ _ h => h) (Or.inl ⟨by rfl, ?_⟩) (by assumption) ?_
            rotate_left
            · intro w hSw; (try dsimp only at hSw); go_simp; try with_reducible rfl
            try simp only [Act.put, List.setIfInBounds_toArray, List.set_cons_zero, List.set_cons_succ]
            refine held_take (i := 22) (v := ?_) rfl (by kernel_rfl) (by kernel_rfl) (by kernel_rfl) (fun _ _ _ h => h) (Or.inl ⟨by rfl, ?_⟩) (by assumption) ?_
            rotate_left
            · intro w hSw; (try dsimp only at hSw); go_simp; try with_reducible rfl
            try simp only [Act.put, List.setIfInBounds_toArray, List.set_cons_zero, List.set_cons_succ]
            refine held_take (i := 24) (v := ?_) rfl (by kernel_rfl) (by kernel_rfl) (by kernel_rfl) (fun _ _ _ h => h) (Or.inl ⟨by rfl, ?_⟩) (by assumption) ?_
            rotate_left
            · intro w hSw; (try dsimp only at hSw); go_simp; try with_reducible rfl
            try simp only [Act.put, List.setIfInBounds_toArray, List.set_cons_zero, List.set_cons_succ]
            refine held_take (i := 25) (v := ?_) rfl (by kernel_rfl) (by kernel_rfl) (by kernel_rfl) (fun _ _ _ h => h) (Or.inl ⟨by rfl, ?_⟩) (by assumption) ?_
            rotate_left
            · intro w hSw; (try dsimp only at hSw); go_simp; try with_reducible rfl
            try simp only [Act.put, List.setIfInBounds_toArray, List.set_cons_zero, List.set_cons_succ]
            refine held_ready (i := 23) rfl (by kernel_rfl) (fun K hK => ?_)
            go_simp
            refine ch.out.mono ?_
            rintro e w9 ⟨rfl, B9⟩
            have L9 := L8.out.below B9
            have S9 := toS.out _ L9.log.low (S8.out.s.below B9 S8.out.s.lt)
            have cr := r8has_any L9.ref (.slice aa ma ca) ta S9.ta (by have := ln7.out; omega)
            rw [← eB.out] at cr
            replace L9 := Lib.hid L9
            replace S9 := Lib.hid S9
            replace B9 := Lib.hid B9
            replace cr := Lib.hid cr
            clear S8 L8 ch
            refine hK.out _ _ (S9.out) (fun hHeldN => ?_)
            clear hHeld hK K
            have hHeld := hHeldN
            clear hHeldN
            try simp only [Act.put, List.setIfInBounds_toArray, List.set_cons_zero, List.set_cons_succ]
            refine held_ready (i := 26) rfl (by kernel_rfl) (fun K hK => ?_)
            go_simp
            refine cr.out.mono ?_
            rintro e w10 ⟨rfl, B10⟩
            have L10 := L9.out.below B10
            have S10 := toS.out _ L10.log.low (S9.out.s.below B10 S9.out.s.lt)
            replace L10 := Lib.hid L10
            replace S10 := Lib.hid S10
            replace B10 := Lib.hid B10
            clear S9 L9 cr
            refine hK.out _ _ (S10.out) (fun hHeldN => ?_)
            clear hHeld hK K
            have hHeld := hHeldN
            clear hHeldN
            try simp only [Act.put, List.setIfInBounds_toArray, List.set_cons_zero, List.set_cons_succ]
            refine held_take (i := 27) (v := ?_) rfl (by kernel_rfl) (by kernel_rfl) (by kernel_rfl) (fun _ _ _ h => h) (Or.inl ⟨by rfl, ?_⟩) (by assumption) ?_
            rotate_left
            · intro w hSw; (try dsimp only at hSw); go_simp; try with_reducible rfl
            try simp only [Act.put, List.setIfInBounds_toArray, List.set_cons_zero, List.set_cons_succ]
            refine held_take (i := 28) (v := ?_) rfl (by kernel_rfl) (by kernel_rfl) (by kernel_rfl) (fun _ _ _ h => h) (Or.inl ⟨by rfl, ?_⟩) (by assumption) ?_
            rotate_left
            · intro w hSw; (try dsimp only at hSw); go_simp; try with_reducible rfl
            try simp only [Act.put, List.setIfInBounds_toArray, List.set_cons_zero, List.set_cons_succ]
            refine wpAnyH_done (by kernel_rfl) ?_ _
            clear hHeld
            rw [← ekeep.out] at L10
            go_wp2_with fail
            go_roundw
            case rel => exact ⟨k + 1, F3, G8, .slice a8 N c8, by omega, by go_num, L10.out, hs'.out⟩
            case measure => simp [intOf]; omega
    · obtain rfl : k = n := by omega
      have lk := length_keep ls k
      have hsh := keep_short hs
      obtain ⟨T, eT⟩ : ∃ T, T = keepTo ls k := ⟨_, rfl⟩
      rw [← eT] at hL lk hsh
      have ck := Lib.hid (lclash_any hL.log.log (fun t ht => Nat.le_trans (hsh t ht) (by decide)))
      have nd := hL.log.log.nodup
      replace hL := Lib.hid hL
      replace hs := Lib.hid hs
      replace lk := Lib.hid lk
      replace hsh := Lib.hid hsh
      replace eT := Lib.hid eT
      go_wp2_with fail
      refine ck.out.mono ?_
      clear ck
      intro e w2 hck
      cases hq : clashOf T with
      | none =>
        unfold ClashSays at hck
        rw [hq] at hck
        obtain ⟨rfl, B2⟩ := hck
        have L2 := hL.out.below B2
        have cr := r8clash_any L2.ref (fun t ht => Nat.le_trans (hsh.out t ht) (by decide)) (by have := lk.out; omega)
        unfold RClashSays at cr
        rw [hq] at cr
        clear nd
        replace L2 := Lib.hid L2
        replace B2 := Lib.hid B2
        replace cr := Lib.hid cr
        replace hq := Lib.hid hq
        go_wp2_with fail
        refine cr.out.mono ?_
        rintro e w3 ⟨rfl, B3⟩
        have L3 := L2.out.below B3
        have low3 : Below w.heap.size w w3.drew := L3.log.low.drew
        replace L3 := Lib.hid L3
        replace B3 := Lib.hid B3
        replace low3 := Lib.hid low3
        go_wp2_with fail
        refine wp_region_held_drew (S := (fun _ => True)) (by kernel_rfl) (trivial) (fun hHeld => ?_)
        refine held_ready (i := 0) rfl (by kernel_rfl) (fun K hK => ?_)
        go_simp
        refine (al.out _).mono ?_
        rintro e w4 ⟨rfl, B4⟩
        have low4 := low3.out.trans (B4.mono low3.out.size)
        replace B4 := Lib.hid B4
        replace low4 := Lib.hid low4
        refine hK.out _ _ (trivial) (fun hHeldN => ?_)
        clear hHeld hK K
        have hHeld := hHeldN
        clear hHeldN
        try simp only [Act.put, List.setIfInBounds_toArray, List.set_cons_zero, List.set_cons_succ]
        refine held_take (i := 1) (v := ?_) rfl (by kernel_rfl) (by kernel_rfl) (by kernel_rfl) (fun _ _ _ h => h) (Or.inl ⟨by rfl, ?_⟩) (by assumption) ?_
        rotate_left
        · intro w hSw; (try dsimp only at hSw); go_simp; try with_reducible rfl
        try simp only [Act.put, List.setIfInBounds_toArray, List.set_cons_zero, List.set_cons_succ]
        refine held_take (i := 2) (v := ?_) rfl (by kernel_rfl) (by kernel_rfl) (by kernel_rfl) (fun _ _ _ h => h) (Or.inl ⟨by rfl, ?_⟩) (by assumption) ?_
        rotate_left
        · intro w hSw; (try dsimp only at hSw); go_simp; try with_reducible rfl
        try simp only [Act.put, List.setIfInBounds_toArray, List.set_cons_zero, List.set_cons_succ]
        refine held_take (i := 3) (v := ?_) rfl (by kernel_rfl) (by kernel_rfl) (by kernel_rfl) (fun _ _ _ h => h) (Or.inl ⟨by rfl, ?_⟩) (by assumption) ?_
        rotate_left
        · intro w hSw; (try dsimp only at hSw); go_simp; try with_reducible rfl
        try simp only [Act.put, List.setIfInBounds_toArray, List.set_cons_zero, List.set_cons_succ]
        refine held_take (i := 4) (v := ?_) rfl (by kernel_rfl) (by kernel_rfl) (by kernel_rfl) (fun _ _ _ h => h) (Or.inl ⟨by rfl, ?_⟩) (by assumption) ?_
        rotate_left
        · intro w hSw; (try dsimp only at hSw); go_simp; try with_reducible rfl
        try simp only [Act.put, List.setIfInBounds_toArray, List.set_cons_zero, List.set_cons_succ]
        refine held_take (i := 5) (v := _) rfl (by kernel_rfl) (by kernel_rfl) (by kernel_rfl) (fun _ _ _ h => h) (Or.inr ⟨by rfl, rfl⟩) (by assumption) ?_
        try simp only [Act.put, List.setIfInBounds_toArray, List.set_cons_zero, List.set_cons_succ]
        refine held_take (i := 6) (v := _) rfl (by kernel_rfl) (by kernel_rfl) (by kernel_rfl) (fun _ _ _ h => h) (Or.inr ⟨by rfl, rfl⟩) (by assumption) ?_
        try simp only [Act.put, List.setIfInBounds_toArray, List.set_cons_zero, List.set_cons_succ]
        refine held_take (i := 7) (v := _) rfl (by kernel_rfl) (by kernel_rfl) (by kernel_rfl) (fun _ _ _ h => h) (Or.inr ⟨by rfl, rfl⟩) (by assumption) ?_
        try simp only [Act.put, List.setIfInBounds_toArray, List.set_cons_zero, List.set_cons_succ]
        refine held_take (i := 8) (v := _) rfl (by kernel_rfl) (by kernel_rfl) (by kernel_rfl) (fun _ _ _ h => h) (Or.inr ⟨by rfl, rfl⟩) (by assumption) ?_
        try simp only [Act.put, List.setIfInBounds_toArray, List.set_cons_zero, List.set_cons_succ]
        refine held_take (i := 9) (v := _) rfl (by kernel_rfl) (by kernel_rfl) (by kernel_rfl) (fun _ _ _ h => h) (Or.inr ⟨by rfl, rfl⟩) (by assumption) ?_
        try simp only [Act.put, List.setIfInBounds_toArray, List.set_cons_zero, List.set_cons_succ]
        refine held_take (i := 10) (v := _) rfl (by kernel_rfl) (by kernel_rfl) (by kernel_rfl) (fun _ _ _ h => h) (Or.inr ⟨by rfl, rfl⟩) (by assumption) ?_
        try simp only [Act.put, List.setIfInBounds_toArray, List.set_cons_zero, List.set_cons_succ]
        refine held_take (i := 11) (v := _) rfl (by kernel_rfl) (by kernel_rfl) (by kernel_rfl) (fun _ _ _ h => h) (Or.inr ⟨by rfl, rfl⟩) (by assumption) ?_
        try simp only [Act.put, List.setIfInBounds_toArray, List.set_cons_zero, List.set_cons_succ]
        refine held_take (i := 12) (v := _) rfl (by kernel_rfl) (by kernel_rfl) (by kernel_rfl) (fun _ _ _ h => h) (Or.inr ⟨by rfl, rfl⟩) (by assumption) ?_
        try simp only [Act.put, List.setIfInBounds_toArray, List.set_cons_zero, List.set_cons_succ]
        refine held_take (i := 13) (v := _) rfl (by kernel_rfl) (by kernel_rfl) (by kernel_rfl) (fun _ _ _ h => h) (Or.inr ⟨by rfl, rfl⟩) (by assumption) ?_
        try simp only [Act.put, List.setIfInBounds_toArray, List.set_cons_zero, List.set_cons_succ]
        refine held_take (i := 14) (v := _) rfl (by kernel_rfl) (by kernel_rfl) (by kernel_rfl) (fun _ _ _ h => h) (Or.inr ⟨by rfl, rfl⟩) (by assumption) ?_
        try simp only [Act.put, List.setIfInBounds_toArray, List.set_cons_zero, List.set_cons_succ]
        refine held_take (i := 15) (v := _) rfl (by kernel_rfl) (by kernel_rfl) (by kernel_rfl) (fun _ _ _ h => h) (Or.inr ⟨by rfl, rfl⟩) (by assumption) ?_
        try simp only [Act.put, List.setIfInBounds_toArray, List.set_cons_zero, List.set_cons_succ]
        refine held_take (i := 16) (v := _) rfl (by kernel_rfl) (by kernel_rfl) (by kernel_rfl) (fun _ _ _ h => h) (Or.inr ⟨by rfl, rfl⟩) (by assumption) ?_
        try simp only [Act.put, List.setIfInBounds_toArray, List.set_cons_zero, List.set_cons_succ]
        refine held_take (i := 17) (v := _) rfl (by kernel_rfl) (by kernel_rfl) (by kernel_rfl) (fun _ _ _ h => h) (Or.inr ⟨by rfl, rfl⟩) (by assumption) ?_
        try simp only [Act.put, List.setIfInBounds_toArray, List.set_cons_zero, List.set_cons_succ]
        refine held_take (i := 18) (v := _) rfl (by kernel_rfl) (by kernel_rfl) (by kernel_rfl) (fun _ _ _ h => h) (Or.inr ⟨by rfl, rfl⟩) (by assumption) ?_
        try simp only [Act.put, List.setIfInBounds_toArray, List.set_cons_zero, List.set_cons_succ]
        refine held_take (i := 19) (v := _) rfl (by kernel_rfl) (by kernel_rfl) (by kernel_rfl) (fun _ _ _ h => h) (Or.inr ⟨by rfl, rfl⟩) (by assumption) ?_
        try simp only [Act.put, List.setIfInBounds_toArray, List.set_cons_zero, List.set_cons_succ]
        refine held_take (i := 20) (v := _) rfl (by kernel_rfl) (by kernel_rfl) (by kernel_rfl) (fun _ _ _ h => h) (Or.inr ⟨by rfl, rfl⟩) (by assumption) ?_
        try simp only [Act.put, List.setIfInBounds_toArray, List.set_cons_zero, List.set_cons_succ]
        refine held_take (i := 21) (v := _) rfl (by kernel_rfl) (by kernel_rfl) (by kernel_rfl) (fun _ _ _ h => h) (Or.inr ⟨by rfl, rfl⟩) (by assumption) ?_
        try simp only [Act.put, List.setIfInBounds_toArray, List.set_cons_zero, List.set_cons_succ]
        refine held_take (i := 22) (v := _) rfl (by kernel_rfl) (by kernel_rfl) (by kernel_rfl) (fun _ _ _ h => h) (Or.inr ⟨by rfl, rfl⟩) (by assumption) ?_
        try simp only [Act.put, List.setIfInBounds_toArray, List.set_cons_zero, List.set_cons_succ]
        refine held_take (i := 23) (v := _) rfl (by kernel_rfl) (by kernel_rfl) (by kernel_rfl) (fun _ _ _ h => h) (Or.inr ⟨by rfl, rfl⟩) (by assumption) ?_
        try simp only [Act.put, List.setIfInBounds_toArray, List.set_cons_zero, List.set_cons_succ]
        refine held_take (i := 24) (v := _) rfl (by kernel_rfl) (by kernel_rfl) (by kernel_rfl) (fun _ _ _ h => h) (Or.inr ⟨by rfl, rfl⟩) (by assumption) ?_
        try simp only [Act.put, List.setIfInBounds_toArray, List.set_cons_zero, List.set_cons_succ]
        refine held_take (i := 25) (v := _) rfl (by kernel_rfl) (by kernel_rfl) (by kernel_rfl) (fun _ _ _ h => h) (Or.inr ⟨by rfl, rfl⟩) (by assumption) ?_
        try simp only [Act.put, List.setIfInBounds_toArray, List.set_cons_zero, List.set_cons_succ]
        refine held_take (i := 26) (v := _) rfl (by kernel_rfl) (by kernel_rfl) (by kernel_rfl) (fun _ _ _ h => h) (Or.inr ⟨by rfl, rfl⟩) (by assumption) ?_
        try simp only [Act.put, List.setIfInBounds_toArray, List.set_cons_zero, List.set_cons_succ]
        refine held_take (i := 27) (v := _) rfl (by kernel_rfl) (by kernel_rfl) (by kernel_rfl) (fun _ _ _ h => h) (Or.inr ⟨by rfl, rfl⟩) (by assumption) ?_
        try simp only [Act.put, List.setIfInBounds_toArray, List.set_cons_zero, List.set_cons_succ]
        refine held_take (i := 28) (v := _) rfl (by kernel_rfl) (by kernel_rfl) (by kernel_rfl) (fun _ _ _ h => h) (Or.inr ⟨by rfl, rfl⟩) (by assumption) ?_
        try simp only [Act.put, List.setIfInBounds_toArray, List.set_cons_zero, List.set_cons_succ]
        refine held_take (i := 29) (v := ?_) rfl (by kernel_rfl) (by kernel_rfl) (by kernel_rfl) (fun _ _ _ h => h) (Or.inl ⟨by rfl, ?_⟩) (by assumption) ?_
        rotate_left
        · intro w hSw; (try dsimp only at hSw); go_simp; try with_reducible rfl
        try simp only [Act.put, List.setIfInBounds_toArray, List.set_cons_zero, List.set_cons_succ]
        refine held_take (i := 30) (v := ?_) rfl (by kernel_rfl) (by kernel_rfl) (by kernel_rfl) (fun _ _ _ h => h) (Or.inl ⟨by rfl, ?_⟩) (by assumption) ?_
        rotate_left
        · intro w hSw; (try dsimp only at hSw); go_simp; try with_reducible rfl
        try simp only [Act.put, List.setIfInBounds_toArray, List.set_cons_zero, List.set_cons_succ]
        refine held_take (i := 31) (v := ?_) rfl (by kernel_rfl) (by kernel_rfl) (by kernel_rfl) (fun _ _ _ h => h) (Or.inl ⟨by rfl, ?_⟩) (by assumption) ?_
        rotate_left
        · intro w hSw; (try dsimp only at hSw); go_simp; try with_reducible rfl
        try simp only [Act.put, List.setIfInBounds_toArray, List.set_cons_zero, List.set_cons_succ]
        refine wpAnyH_done (by kernel_rfl) ?_ _
        clear hHeld
        go_wp2_with fail
        go_ret
        exact ⟨rfl, low4.out⟩
      | some pq =>
        obtain ⟨p, q⟩ := pq
        unfold ClashSays at hck
        rw [hq] at hck
        obtain ⟨⟨v1, v2, rfl, o1, o2, sp, sq⟩, B2⟩ := hck
        have L2 := hL.out.below B2
        have x2 := o1.text sp
        have y2 := o2.text sq
        obtain ⟨b1, d1', e1, _⟩ := x2.ex
        obtain ⟨b2, d2', e2, _⟩ := y2.ex
        have cr := r8clash_any L2.ref (fun t ht => Nat.le_trans (hsh.out t ht) (by decide)) (by have := lk.out; omega)
        unfold RClashSays at cr
        rw [hq] at cr
        clear nd
        obtain ⟨mp, emp⟩ : ∃ mp, mp = p.length := ⟨_, rfl⟩
        obtain ⟨mq, emq⟩ : ∃ mq, mq = q.length := ⟨_, rfl⟩
        rw [← emp] at e1
        rw [← emq] at e2
        subst e1 e2
        replace L2 := Lib.hid L2
        replace B2 := Lib.hid B2
        replace cr := Lib.hid cr
        replace hq := Lib.hid hq
        replace x2 := Lib.hid x2
        replace y2 := Lib.hid y2
        replace o1 := Lib.hid o1
        replace o2 := Lib.hid o2
        replace sp := Lib.hid sp
        replace sq := Lib.hid sq
        replace emp := Lib.hid emp
        replace emq := Lib.hid emq
        go_wp2_with fail
        refine cr.out.mono ?_
        rintro e w3 ⟨⟨i, j, rfl, hi, hj, ei, ej⟩, B3⟩
        have L3 := L2.out.below B3
        obtain ⟨aT, cT, evT, q1, q2, q3⟩ := L3.ref.list.texts
        obtain ⟨ob, oo, bi, di, rfl, ci, ti⟩ := q3.at hi
        obtain ⟨ob', oo', bj, dj, e', cj, tj⟩ := q3.at hj
        cases e'
        rw [ei] at ci ti
        rw [ej] at cj tj
        obtain ⟨N, eN⟩ : ∃ N, N = T.length := ⟨_, rfl⟩
        rw [← eN] at evT hi hj q1
        rw [← emp.out] at ci ti
        rw [← emq.out] at cj tj
        subst evT
        have cel : w3.cell? ⟨r, 0, none⟩ = some (.slice (some ⟨ob, oo, none⟩) N cT) := (cell_of_row _ _ 0 _ _ _ L3.ref.row).trans rfl
        have S3 : FinSt w3.drew r ob oo i j (.slice (some ⟨ob, oo, none⟩) N cT) (.slice b1 mp d1') (.slice b2 mq d2') (.slice bi mp di) (.slice bj mq dj) p q :=
          ⟨cel, (x2.out.below B3).drew, (y2.out.below B3).drew, ci, ti.drew, cj, tj.drew⟩
        have low3 : Below w.heap.size w w3.drew := L3.log.low.drew
        have iN : (i : Int) < (N : Int) := by omega
        have jN : (j : Int) < (N : Int) := by omega
        have g1' : ∀ w', FinSt w' r ob oo i j (.slice (some ⟨ob, oo, none⟩) N cT) (.slice b1 mp d1') (.slice b2 mq d2') (.slice bi mp di) (.slice bj mq dj) p q → w'.cell? ⟨r, 0, none⟩ = some (.slice (some ⟨ob, oo, none⟩) N cT) := fun w' h => h.c
        have g2' : ∀ w', FinSt w' r ob oo i j (.slice (some ⟨ob, oo, none⟩) N cT) (.slice b1 mp d1') (.slice b2 mq d2') (.slice bi mp di) (.slice bj mq dj) p q → w'.cell? ⟨ob, oo + i, none⟩ = some (.slice bi mp di) := fun w' h => h.ci
        have g3' : ∀ w', FinSt w' r ob oo i j (.slice (some ⟨ob, oo, none⟩) N cT) (.slice b1 mp d1') (.slice b2 mq d2') (.slice bi mp di) (.slice bj mq dj) p q → w'.cell? ⟨ob, oo + j, none⟩ = some (.slice bj mq dj) := fun w' h => h.cj
        clear q2 q3 ei ej
        replace L3 := Lib.hid L3
        replace B3 := Lib.hid B3
        replace low3 := Lib.hid low3
        replace S3 := Lib.hid S3
        replace ci := Lib.hid ci
        replace ti := Lib.hid ti
        replace cj := Lib.hid cj
        replace tj := Lib.hid tj
        replace cel := Lib.hid cel
        replace eN := Lib.hid eN
        go_wp2_with fail
        refine wp_region_held_drew (S := (fun w' => FinSt w' r ob oo i j (.slice (some ⟨ob, oo, none⟩) N cT) (.slice b1 mp d1') (.slice b2 mq d2') (.slice bi mp di) (.slice bj mq dj) p q)) (by kernel_rfl) (S3.out) (fun hHeld => ?_)
        refine held_ready (i := 0) rfl (by kernel_rfl) (fun K hK => ?_)
        go_simp
        refine (al.out _).mono ?_
        rintro e w4 ⟨rfl, B4⟩
        have low4 := low3.out.trans (B4.mono low3.out.size)
        have S4 := S3.out.below B4
        replace B4 := Lib.hid B4
        replace low4 := Lib.hid low4
        replace S4 := Lib.hid S4
        refine hK.out _ _ (S4.out) (fun hHeldN => ?_)
        clear hHeld hK K
        have hHeld := hHeldN
        clear hHeldN
        try simp only [Act.put, List.setIfInBounds_toArray, List.set_cons_zero, List.set_cons_succ]
        refine held_take (i := 1) (v := ?_) rfl (by kernel_rfl) (by kernel_rfl) (by kernel_rfl) (fun _ _ _ h => h) (Or.inl ⟨by rfl, ?_⟩) (by assumption) ?_
        rotate_left
        · intro w hSw; (try dsimp only at hSw); go_simp; try with_reducible rfl
        try simp only [Act.put, List.setIfInBounds_toArray, List.set_cons_zero, List.set_cons_succ]
        refine held_take (i := 2) (v := ?_) rfl (by kernel_rfl) (by kernel_rfl) (by kernel_rfl) (fun _ _ _ h => h) (Or.inl ⟨by rfl, ?_⟩) (by assumption) ?_
        rotate_left
        · intro w hSw; (try dsimp only at hSw); go_simp; try with_reducible rfl
        try simp only [Act.put, List.setIfInBounds_toArray, List.set_cons_zero, List.set_cons_succ]
        refine held_take (i := 3) (v := ?_) rfl (by kernel_rfl) (by kernel_rfl) (by kernel_rfl) (fun _ _ _ h => h) (Or.inl ⟨by rfl, ?_⟩) (by assumption) ?_
        rotate_left
        · intro w hSw; (try dsimp only at hSw); go_simp; try with_reducible rfl
        try simp only [Act.put, List.setIfInBounds_toArray, List.set_cons_zero, List.set_cons_succ]
        refine held_take (i := 4) (v := ?_) rfl (by kernel_rfl) (by kernel_rfl) (by kernel_rfl) (fun _ _ _ h => h) (Or.inl ⟨by rfl, ?_⟩) (by assumption) ?_
        rotate_left
        · intro w hSw; (try dsimp only at hSw); go_simp; try with_reducible rfl
        try simp only [Act.put, List.setIfInBounds_toArray, List.set_cons_zero, List.set_cons_succ]
        refine held_take (i := 5) (v := ?_) rfl (by kernel_rfl) (by kernel_rfl) (by kernel_rfl) (fun _ _ _ h => h) (Or.inl ⟨by rfl, ?_⟩) (by assumption) ?_
        rotate_left
        · intro w hSw; (try dsimp only at hSw); go_simp; try with_reducible rfl
        try simp only [Act.put, List.setIfInBounds_toArray, List.set_cons_zero, List.set_cons_succ]
        refine held_take (i := 6) (v := _) rfl (by kernel_rfl) (by kernel_rfl) (by kernel_rfl) (fun _ _ _ h => h) (yieldsIf_str (by rfl) rfl rfl (v := .slice b1 mp d1') (fun w' h => h.x)) (by assumption) ?_
        try simp only [Act.put, List.setIfInBounds_toArray, List.set_cons_zero, List.set_cons_succ]
        refine held_take (i := 7) (v := ?_) rfl (by kernel_rfl) (by kernel_rfl) (by kernel_rfl) (fun _ _ _ h => h) (Or.inl ⟨by rfl, ?_⟩) (by assumption) ?_
        rotate_left
        · intro w hSw; (try dsimp only at hSw); go_simp; try with_reducible rfl
        try simp only [Act.put, List.setIfInBounds_toArray, List.set_cons_zero, List.set_cons_succ]
        refine held_take (i := 8) (v := ?_) rfl (by kernel_rfl) (by kernel_rfl) (by kernel_rfl) (fun _ _ _ h => h) (Or.inl ⟨by rfl, ?_⟩) (by assumption) ?_
        rotate_left
        · intro w hSw; (try dsimp only at hSw); go_simp; try with_reducible rfl
        try simp only [Act.put, List.setIfInBounds_toArray, List.set_cons_zero, List.set_cons_succ]
        refine held_take (i := 9) (v := ?_) rfl (by kernel_rfl) (by kernel_rfl) (by kernel_rfl) (fun _ _ _ h => h) (Or.inl ⟨by rfl, ?_⟩) (by assumption) ?_
        rotate_left
        · intro w hSw; (try dsimp only at hSw); go_simp; try with_reducible rfl
        try simp only [Act.put, List.setIfInBounds_toArray, List.set_cons_zero, List.set_cons_succ]
        refine held_take (i := 10) (v := ?_) rfl (by kernel_rfl) (by kernel_rfl) (by kernel_rfl) (fun _ _ _ h => h) (Or.inl ⟨by rfl, ?_⟩) (by assumption) ?_
        rotate_left
        · intro w hSw; (try dsimp only at hSw); go_simp; try with_reducible rfl
        try simp only [Act.put, List.setIfInBounds_toArray, List.set_cons_zero, List.set_cons_succ]
        refine held_take (i := 11) (v := ?_) rfl (by kernel_rfl) (by kernel_rfl) (by kernel_rfl) (fun _ _ _ h => h) (Or.inl ⟨by rfl, ?_⟩) (by assumption) ?_
        rotate_left
        · intro w hSw; (try dsimp only at hSw); go_simp; try with_reducible rfl
        try simp only [Act.put, List.setIfInBounds_toArray, List.set_cons_zero, List.set_cons_succ]
        refine held_take (i := 12) (v := ?_) rfl (by kernel_rfl) (by kernel_rfl) (by kernel_rfl) (fun _ _ _ h => h) (Or.inl ⟨by rfl, ?_⟩) (by assumption) ?_
        rotate_left
        · intro w hSw; (try dsimp only at hSw); go_simp; try with_reducible rfl
        try simp only [Act.put, List.setIfInBounds_toArray, List.set_cons_zero, List.set_cons_succ]
        refine held_take (i := 13) (v := ?_) rfl (by kernel_rfl) (by kernel_rfl) (by kernel_rfl) (fun _ _ _ h => h) (Or.inl ⟨by rfl, ?_⟩) (by assumption) ?_
        rotate_left
        · intro w hSw; (try dsimp only at hSw); go_simp; try with_reducible rfl
        try simp only [Act.put, List.setIfInBounds_toArray, List.set_cons_zero, List.set_cons_succ]
        refine held_take (i := 14) (v := _) rfl (by kernel_rfl) (by kernel_rfl) (by kernel_rfl) (fun _ _ _ h => h) (yieldsIf_str (by rfl) rfl rfl (v := .slice bi mp di) (fun w' h => h.ti)) (by assumption) ?_
        try simp only [Act.put, List.setIfInBounds_toArray, List.set_cons_zero, List.set_cons_succ]
        refine held_take (i := 15) (v := ?_) rfl (by kernel_rfl) (by kernel_rfl) (by kernel_rfl) (fun _ _ _ h => h) (Or.inl ⟨by rfl, ?_⟩) (by assumption) ?_
        rotate_left
        · intro w hSw; (try dsimp only at hSw); go_simp; try with_reducible rfl
        try simp only [Act.put, List.setIfInBounds_toArray, List.set_cons_zero, List.set_cons_succ]
        refine held_take (i := 16) (v := ?_) rfl (by kernel_rfl) (by kernel_rfl) (by kernel_rfl) (fun _ _ _ h => h) (Or.inl ⟨by rfl, ?_⟩) (by assumption) ?_
        rotate_left
        · intro w hSw; (try dsimp only at hSw); go_simp; try with_reducible rfl
        try simp only [Act.put, List.setIfInBounds_toArray, List.set_cons_zero, List.set_cons_succ]
        refine held_take (i := 17) (v := ?_) rfl (by kernel_rfl) (by kernel_rfl) (by kernel_rfl) (fun _ _ _ h => h) (Or.inl ⟨by rfl, ?_⟩) (by assumption) ?_
        rotate_left
        · intro w hSw; (try dsimp only at hSw); go_simp; try with_reducible rfl
        try simp only [Act.put, List.setIfInBounds_toArray, List.set_cons_zero, List.set_cons_succ]
        refine held_take (i := 18) (v := _) rfl (by kernel_rfl) (by kernel_rfl) (by kernel_rfl) (fun _ _ _ h => h) (yieldsIf_str (by rfl) rfl rfl (v := .slice b2 mq d2') (fun w' h => h.y)) (by assumption) ?_
        try simp only [Act.put, List.setIfInBounds_toArray, List.set_cons_zero, List.set_cons_succ]
        refine held_take (i := 19) (v := ?_) rfl (by kernel_rfl) (by kernel_rfl) (by kernel_rfl) (fun _ _ _ h => h) (Or.inl ⟨by rfl, ?_⟩) (by assumption) ?_
        rotate_left
        · intro w hSw; (try dsimp only at hSw); go_simp; try with_reducible rfl
        try simp only [Act.put, List.setIfInBounds_toArray, List.set_cons_zero, List.set_cons_succ]
        refine held_take (i := 20) (v := ?_) rfl (by kernel_rfl) (by kernel_rfl) (by kernel_rfl) (fun _ _ _ h => h) (Or.inl ⟨by rfl, ?_⟩) (by assumption) ?_
        rotate_left
        · intro w hSw; (try dsimp only at hSw); go_simp; try with_reducible rfl
        try simp only [Act.put, List.setIfInBounds_toArray, List.set_cons_zero, List.set_cons_succ]
        refine held_take (i := 21) (v := ?_) rfl (by kernel_rfl) (by kernel_rfl) (by kernel_rfl) (fun _ _ _ h => h) (Or.inl ⟨by rfl, ?_⟩) (by assumption) ?_
        rotate_left
        · intro w hSw; (try dsimp only at hSw); go_simp; try with_reducible rfl
        try simp only [Act.put, List.setIfInBounds_toArray, List.set_cons_zero, List.set_cons_succ]
        refine held_take (i := 22) (v := ?_) rfl (by kernel_rfl) (by kernel_rfl) (by kernel_rfl) (fun _ _ _ h => h) (Or.inl ⟨by rfl, ?_⟩) (by assumption) ?_
        rotate_left
        · intro w hSw; (try dsimp only at hSw); go_simp; try with_reducible rfl
        try simp only [Act.put, List.setIfInBounds_toArray, List.set_cons_zero, List.set_cons_succ]
        refine held_take (i := 23) (v := ?_) rfl (by kernel_rfl) (by kernel_rfl) (by kernel_rfl) (fun _ _ _ h => h) (Or.inl ⟨by rfl, ?_⟩) (by assumption) ?_
        rotate_left
        · intro w hSw; (try dsimp only at hSw); go_simp; try with_reducible rfl
        try simp only [Act.put, List.setIfInBounds_toArray, List.set_cons_zero, List.set_cons_succ]
        refine held_take (i := 24) (v := ?_) rfl (by kernel_rfl) (by kernel_rfl) (by kernel_rfl) (fun _ _ _ h => h) (Or.inl ⟨by rfl, ?_⟩) (by assumption) ?_
        rotate_left
        · intro w hSw; (try dsimp only at hSw); go_simp; try with_reducible rfl
        try simp only [Act.put, List.setIfInBounds_toArray, List.set_cons_zero, List.set_cons_succ]
        refine held_take (i := 25) (v := ?_) rfl (by kernel_rfl) (by kernel_rfl) (by kernel_rfl) (fun _ _ _ h => h) (Or.inl ⟨by rfl, ?_⟩) (by assumption) ?_
        rotate_left
        · intro w hSw; (try dsimp only at hSw); go_simp; try with_reducible rfl
        try simp only [Act.put, List.setIfInBounds_toArray, List.set_cons_zero, List.set_cons_succ]
        refine held_take (i := 26) (v := _) rfl (by kernel_rfl) (by kernel_rfl) (by kernel_rfl) (fun _ _ _ h => h) (yieldsIf_str (by rfl) rfl rfl (v := .slice bj mq dj) (fun w' h => h.tj)) (by assumption) ?_
        try simp only [Act.put, List.setIfInBounds_toArray, List.set_cons_zero, List.set_cons_succ]
        refine held_take (i := 27) (v := ?_) rfl (by kernel_rfl) (by kernel_rfl) (by kernel_rfl) (fun _ _ _ h => h) (Or.inl ⟨by rfl, ?_⟩) (by assumption) ?_
        rotate_left
        · intro w hSw; (try dsimp only at hSw); go_simp; try with_reducible rfl
        try simp only [Act.put, List.setIfInBounds_toArray, List.set_cons_zero, List.set_cons_succ]
        refine held_take (i := 28) (v := ?_) rfl (by kernel_rfl) (by kernel_rfl) (by kernel_rfl) (fun _ _ _ h => h) (Or.inl ⟨by rfl, ?_⟩) (by assumption) ?_
        rotate_left
        · intro w hSw; (try dsimp only at hSw); go_simp; try with_reducible rfl
        try simp only [Act.put, List.setIfInBounds_toArray, List.set_cons_zero, List.set_cons_succ]
        refine held_take (i := 29) (v := ?_) rfl (by kernel_rfl) (by kernel_rfl) (by kernel_rfl) (fun _ _ _ h => h) (Or.inl ⟨by rfl, ?_⟩) (by assumption) ?_
        rotate_left
        · intro w hSw; (try dsimp only at hSw); go_simp; try with_reducible rfl
        try simp only [Act.put, List.setIfInBounds_toArray, List.set_cons_zero, List.set_cons_succ]
        refine held_take (i := 30) (v := ?_) rfl (by kernel_rfl) (by kernel_rfl) (by kernel_rfl) (fun _ _ _ h => h) (Or.inl ⟨by rfl, ?_⟩) (by assumption) ?_
        rotate_left
        · intro w hSw; (try dsimp only at hSw); go_simp; try with_reducible rfl
        try simp only [Act.put, List.setIfInBounds_toArray, List.set_cons_zero, List.set_cons_succ]
        refine held_take (i := 31) (v := ?_) rfl (by kernel_rfl) (by kernel_rfl) (by kernel_rfl) (fun _ _ _ h => h) (Or.inl ⟨by rfl, ?_⟩) (by assumption) ?_
        rotate_left
        · intro w hSw; (try dsimp only at hSw); go_simp; try with_reducible rfl
        try simp only [Act.put, List.setIfInBounds_toArray, List.set_cons_zero, List.set_cons_succ]
        refine wpAnyH_done (by kernel_rfl) ?_ _
        clear hHeld
        go_wp2_with fail
        go_ret
        exact ⟨rfl, low4.out⟩
end Go.Proofs.Ytjbmdeppoobccaa
