/-
  The reference of layer 7: words, join, mixed. Conditions: texts not too long.
-/
import Derived.Test.YtnadgjlmlnhknaaRef06
import Derived.Test.YtnadgjlmlnhknaaWrapPlain
namespace Go.Proofs.Ytnadgjlmlnhknaa
open Go.RowKit

/-- Word i of a text. -/
def wordL (S : Nat → Nat) (i : Nat) : List Nat := bytesOf (fun j => S (8 * i + j)) 8
theorem length_wordL (S : Nat → Nat) (i : Nat) : (wordL S i).length = 8 := length_bytesOf _ _
theorem word_cut {t : List Nat} {k : Nat} (h : 8 * k + 8 ≤ t.length) : (t.drop (8 * k)).take 8 = wordL (byt t) k := cut_bytes h

set_option maxHeartbeats 4000000 in
set_option maxRecDepth 100000 in
theorem r7words_any (w : World) (v : Value) (t : List Nat) (m q : Nat) (em : t.length = m) (hq : m = 8 * q) (hm : m ≤ 1000) (ht : TextAt w v t) :
    Calls Try.prog 59 #[v] w fun e w' => ∃ v' vs, e = .returned v' ∧ Own w' w.heap.size 29 v' vs ∧ vs.length = q ∧ (∀ (i : Nat) (u : Value), vs[i]? = some u → Own w' w.heap.size 5 u (u8l (wordL (byt t) i))) ∧ Below w.heap.size w w' := by
  obtain ⟨ao, cap, rfl, hcap, _⟩ := ht.ex
  have cuts := fun k (hk : k < q) => TextAt.cut (lo := 8 * k) (hi := 8 * k + 8) ht (by omega) (by omega)
  have cutt : ∀ k, k < q → TextAt w (.slice (cutA ao cap (8 * k)) 8 (cap - 8 * k)) (wordL (byt t) k) := fun k hk => by
    have h := cuts k hk
    rwa [show 8 * k + 8 - 8 * k = 8 by omega, word_cut (by omega)] at h
  rw [em] at hcap ⊢
  have hs := ht.small
  clear cuts
  replace ht := Lib.hid ht
  replace cutt := Lib.hid cutt
  replace em := Lib.hid em
  replace hs := Lib.hid hs
  replace hcap := Lib.hid hcap
  replace hq := Lib.hid hq
  replace hm := Lib.hid hm
  go_enter Try.func59, Try.ntmps59
  go_wp2_with fail
  go_loopw [3, 4] (fun vo i wr => ∃ (k a : Nat) (vs : List Value), k ≤ q ∧ a = 8 * k ∧ i = .int .i64 a ∧ Own wr w.heap.size 29 vo vs ∧ vs.length = k ∧ (∀ (j : Nat) (u : Value), vs[j]? = some u → Own wr w.heap.size 5 u (u8l (wordL (byt t) j))) ∧ Below w.heap.size w wr) (fun _ i _ => m - (intOf i).toNat)
  case atStart => exact ⟨0, 0, [], Nat.zero_le _, rfl, rfl, Own.nil _ _ _, rfl, fun j u e => by simp at e, Below.refl _ _⟩
  case round =>
    obtain ⟨k, a, vs, hk, ea, rfl, hO, hl, hel, hB⟩ := hrel
    by_cases hlt : k < q
    · have ha8 : a + 8 ≤ m := by have := hq.out; omega
      have hm9 := hm.out
      have d : decide ((a : Int) < (m : Int)) = true := decide_eq_true (by omega)
      have dn : decide (a < m) = true := decide_eq_true (by omega)
      have hcut := run_cut_lh (P := Try.prog) (T := 29) (e := 5) Try.underlying29 (by kernel_rfl) ao m cap a (a + 8) (by omega) (by have := hcap.out; omega) (a : Int) ((a : Int) + 8) rfl (by omega)
      rw [show a + 8 - a = 8 by omega] at hcut
      have tk := (cutt.out k hlt).below hB
      rw [← ea] at tk
      have cc := ref_copy wr _ _ tk (by rw [length_wordL]; decide)
      have f0 : IntKind.i64.wrap ((a : Int) + 8) = (a : Int) + 8 := IntWalk.i64_in _ (by omega)
      have sW : ∀ x ∈ wordL (byt t) k, x < 256 := bytesOf_lt fun j _ => byt_lt hs.out _
      clear tk
      replace ea := Lib.hid ea
      replace hO := Lib.hid hO
      replace hl := Lib.hid hl
      replace hel := Lib.hid hel
      replace hB := Lib.hid hB
      replace ha8 := Lib.hid ha8
      replace cc := Lib.hid cc
      replace hm9 := Lib.hid hm9
      replace hk := Lib.hid hk
      replace sW := Lib.hid sW
      go_wp2_with fail
      refine cc.out.mono ?_
      rintro e w2 ⟨v2, rfl, o2, B2⟩
      obtain ⟨a2, n2, c2, rfl⟩ := o2.shape
      have low2 := hB.out.trans (B2.mono hB.out.size)
      have Ba : Below w2.heap.size w2 (w2.alloc (.cells #[.slice a2 n2 c2] 29)) := (Below.refl _ _).alloc (Nat.le_refl _) _
      have lowa := low2.trans (Ba.mono low2.size)
      have hOa := (hO.out.below B2).below Ba
      have hela := fun j u (e : vs[j]? = some u) => ((hel.out j u e).below B2).below Ba
      have o2a := (o2.weaken hB.out.size).below Ba
      have hs1 : vs.length + 1 ≤ 1000000000 := by have := hl.out; have := hk.out; have := hq.out; have := hm.out; omega
      clear cc hO hel o2 B2 Ba low2
      replace lowa := Lib.hid lowa
      replace hOa := Lib.hid hOa
      replace hela := Lib.hid hela
      replace o2a := Lib.hid o2a
      go_wp2_with (at_builtin; refine wpList_append_x rfl (.tmp 11) (.tmp 18) 42 rfl 29 Try.underlying42 (.slice none 0 0) 24 infoRow5 rfl (by decide) w.heap.size w _ vs rfl hOa.out lowa.out lowa.out.size (some ⟨w2.heap.size, 0, none⟩) 1 1 [.slice a2 n2 c2] rfl rfl (fun e => by simp at e) one_cell (by intro u hu; simp at hu; subst hu; rfl) hs1 ?_; intro v9 w9 O9 B9 G9 H9)
      have keep : ∀ {u : Value} {xs : List Value}, Own (w2.alloc (.cells #[.slice a2 n2 c2] 29)) w.heap.size 5 u xs → Own w9 w.heap.size 5 u xs := fun {u xs} hu => hu.other fun p hp => G9.out.block p (hu.lt p hp).2 (own_apart hu hOa.out p hp)
      have hel9 : ∀ (j : Nat) (u : Value), (vs ++ [Value.slice a2 n2 c2])[j]? = some u → Own w9 w.heap.size 5 u (u8l (wordL (byt t) j)) := fun j u e => by
        by_cases hj : j < vs.length
        · rw [List.getElem?_append_left hj] at e
          exact keep (hela.out j u e)
        · have hj2 : j = vs.length := by
            have := (List.getElem?_eq_some_iff.1 e).1
            simp at this; omega
          rw [hj2, List.getElem?_append_right (Nat.le_refl _), Nat.sub_self] at e
          obtain rfl : Value.slice a2 n2 c2 = u := by simpa using e
          rw [hj2, hl.out]
          exact keep o2a.out
      clear keep hOa hela o2a G9 H9
      replace hel9 := Lib.hid hel9
      go_roundw
      case rel => exact ⟨k + 1, a + 8, _, by omega, by have := ea.out; omega, by go_num, O9.out, by simp [hl.out], hel9.out, B9.out⟩
      case measure => simp [intOf]; have := ha8.out; omega
    · obtain rfl : k = q := by omega
      have ean : a = m := by have := hq.out; omega
      subst ean
      have d : decide ((a : Int) < (a : Int)) = false := decide_eq_false (by omega)
      have dn : decide (a < a) = false := decide_eq_false (by omega)
      replace hO := Lib.hid hO
      replace hl := Lib.hid hl
      replace hel := Lib.hid hel
      replace hB := Lib.hid hB
      replace ea := Lib.hid ea
      go_wp2_with fail
      go_ret
      exact ⟨_, _, rfl, hO.out, hl.out, hel.out, hB.out⟩

set_option maxHeartbeats 4000000 in
set_option maxRecDepth 100000 in
theorem r7join_any (w : World) (va : Value) (A : List Nat) (ha : TextAt w va A) (ao : Option Addr) (n cap : Nat) (ls : List (List Nat)) (hn : ls.length = n) (ht : TextsAt w ao ls) (hlen : A.length + ls.flatten.length ≤ 100000) (hn9 : n ≤ 1000) :
    Calls Try.prog 60 #[va, .slice ao n cap] w fun e w' => ∃ v', e = .returned v' ∧ Own w' w.heap.size 5 v' (u8l (A ++ ls.flatten)) ∧ Below w.heap.size w w' := by
  have cc := ref_copy w va A ha (by omega)
  replace ha := Lib.hid ha
  replace hn := Lib.hid hn
  replace ht := Lib.hid ht
  replace hlen := Lib.hid hlen
  replace cc := Lib.hid cc
  go_enter Try.func60, Try.ntmps60
  go_wp2_with fail
  refine cc.out.mono ?_
  rintro e w1 ⟨v1, rfl, o1, B1⟩
  clear cc
  replace o1 := Lib.hid o1
  replace B1 := Lib.hid B1
  go_wp2_with fail
  go_loopw [5, 6] (fun vo i wr => ∃ k : Nat, k ≤ n ∧ i = .int .i64 k ∧ Own wr w.heap.size 5 vo (u8l (A ++ joinTo ls k)) ∧ Below w.heap.size w wr) (fun _ i _ => n - (intOf i).toNat)
  case atStart => exact ⟨0, Nat.zero_le _, rfl, by simpa [joinTo] using o1.out, B1.out⟩
  case round =>
    clear o1 B1
    obtain ⟨k, hk, rfl, hO, hB⟩ := hrel
    by_cases hlt : k < n
    · have hk2 : k < ls.length := by rw [hn.out]; exact hlt
      obtain ⟨ob, oo, rfl, ai, ci, h1, h2, h3, h4⟩ := ht.out k hk2
      have tk : TextAt w (.slice ai (ls.getD k []).length ci) (ls.getD k []) := ⟨ai, ci, rfl, h2, h4, h3⟩
      have js := joinTo_succ ls hk2
      have jl := joinTo_le ls (k + 1)
      have c1 := (hB.cell (block_lt_of_cell h1)).trans h1
      have t1 := tk.below hB
      have d : decide (k < n) = true := decide_eq_true hlt
      have iK : (k : Int) < (n : Int) := by omega
      have lZ : (A ++ joinTo ls k).length + (ls.getD k []).length ≤ 1000000000 := by
        rw [js, List.length_append] at jl
        have := hlen.out
        rw [List.length_append]
        omega
      obtain ⟨tn, etn⟩ : ∃ tn, tn = (ls.getD k []).length := ⟨_, rfl⟩
      rw [← etn] at c1 t1
      generalize ls.getD k [] = T at *
      clear h1 h2 h3 h4 tk jl
      replace hO := Lib.hid hO
      replace hB := Lib.hid hB
      replace js := Lib.hid js
      replace t1 := Lib.hid t1
      replace etn := Lib.hid etn
      go_wp2_with (at_builtin; refine wpList_append_s (by rfl) (.tmp 15) (.tmp 19) rfl w.heap.size w _ (A ++ joinTo ls k) rfl hO.out hB.out hB.out.size (.slice ai tn ci) T rfl t1.out lZ ?_; intro v9 w9 O9 B9)
      go_roundw
      case rel => exact ⟨k + 1, by omega, by go_num, by rw [js.out, ← List.append_assoc]; exact O9.out, B9.out⟩
      case measure => simp [intOf]; omega
    · obtain rfl : k = n := by omega
      have d : decide (k < k) = false := decide_eq_false (by omega)
      have ej : joinTo ls k = ls.flatten := by rw [← hn.out]; exact joinTo_full ls
      rw [ej] at hO
      replace hO := Lib.hid hO
      replace hB := Lib.hid hB
      replace ej := Lib.hid ej
      go_wp2_with fail
      go_ret
      exact ⟨_, rfl, hO.out, hB.out⟩

theorem byt_be (M : Nat) {i : Nat} (hi : i < 8) : byt (beBytes 8 M) i = M / 256 ^ (7 - i) % 256 := by
  unfold beBytes byt
  simp [List.getD, hi]
set_option maxHeartbeats 4000000 in
set_option maxRecDepth 100000 in
theorem r7mixed_any (w : World) (va : Value) (x : Nat → Nat) (hx : ∀ i, i < 8 → x i < 256) (ha : TextAt w va (bytesOf x 8)) (M : Nat) (hM : M < 4294967296) :
    Calls Try.prog 61 #[va, .int .i64 (M : Int)] w fun e w' => ∃ v', e = .returned v' ∧ Own w' w.heap.size 5 v' (u8l (bytesOf (wmix x M) 8)) ∧ Below w.heap.size w w' := by
  have f1 : IntKind.u64.wrap (M : Int) = (M : Int) := IntWalk.u64_in _ (by omega)
  have cb := ref_bytes w M 8 (by decide) (by omega)
  simp only [show ((8 : Nat) : Int) = 8 from rfl] at cb
  replace hx := Lib.hid hx
  replace ha := Lib.hid ha
  replace hM := Lib.hid hM
  replace cb := Lib.hid cb
  go_enter Try.func61, Try.ntmps61
  go_wp2_with fail
  refine cb.out.mono ?_
  rintro e w1 ⟨v1, rfl, o1, B1⟩
  have hu := o1.text (beBytes_lt 8 M)
  have hv := ha.out.below B1
  obtain ⟨ax, cx, rfl, nx⟩ := hv.nth
  obtain ⟨ay, cy, rfl, ny⟩ := hu.nth
  have lb : (beBytes 8 M).length = 8 := by simp [beBytes]
  rw [length_bytesOf] at nx ⊢
  rw [lb] at ny ⊢
  clear cb
  replace hv := Lib.hid hv
  replace hu := Lib.hid hu
  replace nx := Lib.hid nx
  replace ny := Lib.hid ny
  replace o1 := Lib.hid o1
  replace B1 := Lib.hid B1
  replace lb := Lib.hid lb
  go_wp2_with fail
  go_loopw [6, 7] (fun o i wr => ∃ k : Nat, k ≤ 8 ∧ i = .int .i64 k ∧ Own wr w1.heap.size 5 o (u8l (bytesOf (wmix x M) k)) ∧ Below w1.heap.size w1 wr) (fun _ i _ => 8 - (intOf i).toNat)
  case atStart => exact ⟨0, Nat.zero_le _, rfl, Own.nil _ _ _, Below.refl _ _⟩
  case round =>
    obtain ⟨k, hk, rfl, hO, hB⟩ := hrel
    by_cases hlt : k < 8
    · obtain ⟨xb, xo, rfl, cX⟩ := nx.out k hlt
      obtain ⟨yb, yo, rfl, cY⟩ := ny.out k hlt
      rw [byt_bytesOf x hlt] at cX
      rw [byt_be M hlt] at cY
      have bx := hx.out k hlt
      have by' : M / 256 ^ (7 - k) % 256 < 256 := Nat.mod_lt _ (by decide)
      have keyX : ∀ w2, Below w1.heap.size w1 w2 → w2.cell? ⟨xb, xo + k, none⟩ = some (.int .u8 (x k : Int)) := fun w2 hB1 => (hB1.cell (block_lt_of_cell cX)).trans cX
      have keyY : ∀ w2, Below w1.heap.size w1 w2 → w2.cell? ⟨yb, yo + k, none⟩ = some (.int .u8 ((M / 256 ^ (7 - k) % 256 : Nat) : Int)) := fun w2 hB1 => (hB1.cell (block_lt_of_cell cY)).trans cY
      have ev := u8_xor_nat (x k) (M / 256 ^ (7 - k) % 256) bx by'
      have ld : wmix x M k < 256 := by unfold wmix; rw [if_pos hlt]; exact xor_lt8 bx by'
      have ed : x k ^^^ (M / 256 ^ (7 - k) % 256) = wmix x M k := by unfold wmix; rw [if_pos hlt]
      rw [ed] at ev
      have sn := bytesOf_snoc (wmix x M) k
      have hs := hB.size
      have ll : (bytesOf (wmix x M) k).length = k := length_bytesOf _ _
      generalize bytesOf (wmix x M) k = L at *
      generalize wmix x M k = d at *
      generalize x k = xx at *
      generalize M / 256 ^ (7 - k) % 256 = y at *
      have iX : (k : Int) < 8 := by omega
      have hBd : Below w1.heap.size w1 wr.drew := hB.drew
      have c1 := keyX _ hBd
      have c2 := keyY _ hBd
      have t1 := lit1 (wx := wr.drew) ld
      have hB1 : Below w1.heap.size w1 (wr.drew.alloc (.cells #[.int .u8 (d : Int)] 5)) := hBd.alloc hs _
      have O1 : Own (wr.drew.alloc (.cells #[.int .u8 (d : Int)] 5)) w1.heap.size 5 _ _ := hO.drew.alloc _
      clear cX cY ed
      replace hO := Lib.hid hO
      replace hB := Lib.hid hB
      replace sn := Lib.hid sn
      replace keyX := Lib.hid keyX
      replace keyY := Lib.hid keyY
      replace bx := Lib.hid bx
      replace by' := Lib.hid by'
      replace ld := Lib.hid ld
      replace t1 := Lib.hid t1
      replace hB1 := Lib.hid hB1
      replace O1 := Lib.hid O1
      replace hBd := Lib.hid hBd
      go_wp2_with fail
      refine wp_region_held_drew (S := (fun w' => w'.cell? ⟨xb, xo + k, none⟩ = some (.int .u8 (xx : Int)) ∧ w'.cell? ⟨yb, yo + k, none⟩ = some (.int .u8 (y : Int)))) (by kernel_rfl) (⟨c1, c2⟩) (fun hHeld => ?_)
      refine held_take (i := 0) (v := ?_) rfl (by kernel_rfl) (by kernel_rfl) (by kernel_rfl) (fun _ _ _ h => h) (Or.inl ⟨by rfl, ?_⟩) (by assumption) ?_
      rotate_left
      · intro w hSw; (try dsimp only at hSw); go_simp; try with_reducible rfl
      try simp only [Act.put, List.setIfInBounds_toArray, List.set_cons_zero, List.set_cons_succ]
      refine held_take (i := 1) (v := ?_) rfl (by kernel_rfl) (by kernel_rfl) (by kernel_rfl) (fun _ _ _ h => h) (Or.inl ⟨by rfl, ?_⟩) (by assumption) ?_
      rotate_left
      · intro w hSw; (try dsimp only at hSw); go_simp; try with_reducible rfl
      try simp only [Act.put, List.setIfInBounds_toArray, List.set_cons_zero, List.set_cons_succ]
      refine held_take (i := 2) (v := ?_) rfl (by kernel_rfl) (by kernel_rfl) (by kernel_rfl) (fun _ _ _ h => h) (Or.inl ⟨by rfl, ?_⟩) (by assumption) ?_
      rotate_left
      · intro w hSw; (try dsimp only at hSw); go_simp; try with_reducible rfl
      try simp only [Act.put, List.setIfInBounds_toArray, List.set_cons_zero, List.set_cons_succ]
      refine held_take (i := 3) (v := ?_) rfl (by kernel_rfl) (by kernel_rfl) (by kernel_rfl) (fun _ _ _ h => h) (Or.inl ⟨by rfl, ?_⟩) (by assumption) ?_
      rotate_left
      · intro w hSw; (try dsimp only at hSw); go_simp; try with_reducible rfl
      try simp only [Act.put, List.setIfInBounds_toArray, List.set_cons_zero, List.set_cons_succ]
      refine held_take (i := 4) (v := ?_) rfl (by kernel_rfl) (by kernel_rfl) (by kernel_rfl) (fun _ _ _ h => h) (Or.inl ⟨by rfl, ?_⟩) (by assumption) ?_
      rotate_left
      · intro w hSw; (try dsimp only at hSw); go_simp; try with_reducible rfl
      try simp only [Act.put, List.setIfInBounds_toArray, List.set_cons_zero, List.set_cons_succ]
      refine held_take (i := 5) (v := ?_) rfl (by kernel_rfl) (by kernel_rfl) (by kernel_rfl) (fun _ _ _ h => h) (Or.inl ⟨by rfl, ?_⟩) (by assumption) ?_
      rotate_left
      · intro w hSw; (try dsimp only at hSw); go_simp; try with_reducible rfl
      try simp only [Act.put, List.setIfInBounds_toArray, List.set_cons_zero, List.set_cons_succ]
      refine held_take (i := 6) (v := ?_) rfl (by kernel_rfl) (by kernel_rfl) (by kernel_rfl) (fun _ _ _ h => h) (Or.inl ⟨by rfl, ?_⟩) (by assumption) ?_
      rotate_left
      · intro w hSw; (try dsimp only at hSw); go_simp; try with_reducible rfl
      try simp only [Act.put, List.setIfInBounds_toArray, List.set_cons_zero, List.set_cons_succ]
      refine held_take (i := 7) (v := ?_) rfl (by kernel_rfl) (by kernel_rfl) (by kernel_rfl) (fun _ _ _ h => h) (Or.inl ⟨by rfl, ?_⟩) (by assumption) ?_
      rotate_left
      · intro w hSw; (try dsimp only at hSw); go_simp; try with_reducible rfl
      try simp only [Act.put, List.setIfInBounds_toArray, List.set_cons_zero, List.set_cons_succ]
      refine held_take (i := 8) (v := ?_) rfl (by kernel_rfl) (by kernel_rfl) (by kernel_rfl) (fun _ _ _ h => h) (Or.inl ⟨by rfl, ?_⟩) (by assumption) ?_
      rotate_left
      · intro w hSw; (try dsimp only at hSw); go_simp; try with_reducible rfl
      try simp only [Act.put, List.setIfInBounds_toArray, List.set_cons_zero, List.set_cons_succ]
      refine held_take (i := 9) (v := ?_) rfl (by kernel_rfl) (by kernel_rfl) (by kernel_rfl) (fun _ _ _ h => h) (Or.inl ⟨by rfl, ?_⟩) (by assumption) ?_
      rotate_left
      · intro w hSw; (try dsimp only at hSw); go_simp; try with_reducible rfl
      try simp only [Act.put, List.setIfInBounds_toArray, List.set_cons_zero, List.set_cons_succ]
      refine held_ready (i := 10) rfl (by kernel_rfl) (fun K hK => ?_)
      rw [if_pos (by rfl)]
      go_simp
      refine hK.out _ _ (⟨keyX.out _ hB1.out, keyY.out _ hB1.out⟩) (fun hHeldN => ?_)
      clear hHeld hK K
      have hHeld := hHeldN
      clear hHeldN
      try simp only [Act.put, List.setIfInBounds_toArray, List.set_cons_zero, List.set_cons_succ]
      refine held_ready (i := 11) rfl (by kernel_rfl) (fun K hK => ?_)
      rw [if_pos (by rfl)]
      refine wp_append_t (.tmp 15) (.tmp 25) rfl w1.heap.size w1 _ L rfl O1.out hB1.out hB1.out.size _ [d] rfl t1.out (by rw [ll]; simp; omega) ?_
      intro v2 w2 O2 B2 G2 H2
      rw [← sn.out] at O2
      refine hK.out _ _ (⟨keyX.out _ B2.out, keyY.out _ B2.out⟩) (fun hHeldN => ?_)
      clear hHeld hK K
      have hHeld := hHeldN
      clear hHeldN
      try simp only [Act.put, List.setIfInBounds_toArray, List.set_cons_zero, List.set_cons_succ]
      refine held_take (i := 12) (v := ?_) rfl (by kernel_rfl) (by kernel_rfl) (by kernel_rfl) (fun _ _ _ h => h) (Or.inl ⟨by rfl, ?_⟩) (by assumption) ?_
      rotate_left
      · intro w hSw; (try dsimp only at hSw); go_simp; try with_reducible rfl
      try simp only [Act.put, List.setIfInBounds_toArray, List.set_cons_zero, List.set_cons_succ]
      refine wpAnyH_done (by kernel_rfl) ?_ _
      clear hHeld
      go_wp2_with fail
      go_roundw
      case rel => exact ⟨k + 1, by omega, by go_num, O2.out, B2.out⟩
      case measure => simp [intOf]; omega
    · obtain rfl : k = 8 := by omega
      replace hO := Lib.hid hO
      replace hB := Lib.hid hB
      go_wp2_with fail
      go_ret
      exact ⟨_, rfl, hO.out.weaken B1.out.size, B1.out.trans (hB.out.mono B1.out.size)⟩
end Go.Proofs.Ytnadgjlmlnhknaa
