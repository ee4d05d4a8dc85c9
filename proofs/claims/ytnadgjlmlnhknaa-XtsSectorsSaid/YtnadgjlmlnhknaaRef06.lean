/-
  The reference of layer 6: xored, Sector. Conditions: the ciphers lie still; blocks of sixteen bytes.
-/
import Derived.Test.YtnadgjlmlnhknaaRef05f
import Derived.Test.YtnadgjlmlnhknaaRefCopy
import Derived.Test.YtnadgjlmlnhknaaXtsSt
namespace Go.Proofs.Ytnadgjlmlnhknaa
open Go.RowKit

/-- Two slices of the call's own lie in blocks of their own. -/
def Apart (v u : Value) : Prop := ∀ q, v.ownBlock = some q → u.ownBlock = some q → False
/-- A cipher of the reference at c. -/
def RefAt (w : World) (c : Nat) (W : Nat → Nat) : Prop := ∃ aw cw vb vk, RefC w c aw cw vb vk W
theorem RefAt.below {w w' : World} {c : Nat} {W : Nat → Nat} (h : RefAt w c W) (hB : Below w.heap.size w w') : RefAt w' c W := by
  obtain ⟨aw, cw, vb, vk, h⟩ := h
  exact ⟨aw, cw, vb, vk, h.below hB⟩
theorem rturn_at {w : World} {c : Nat} {W : Nat → Nat} (hC : RefAt w c W) (hW : ∀ i, W i < 256) (v : Value) (x : Nat → Nat) (hx : Bytes16 x) (hv : TextAt w v (tab x)) :
    Calls Try.prog 22 #[.pointer (some ⟨c, 0, none⟩), v] w fun e w' => ∃ v', e = .returned v' ∧ Own w' w.heap.size 5 v' (u8l (tab (turnF W x))) ∧ Below w.heap.size w w' := by
  obtain ⟨aw, cw, vb, vk, h⟩ := hC
  exact rturn_any w c aw cw vb vk W hW h v x hx hv
theorem rback_at {w : World} {c : Nat} {W : Nat → Nat} (hC : RefAt w c W) (hW : ∀ i, W i < 256) (v : Value) (x : Nat → Nat) (hx : Bytes16 x) (hv : TextAt w v (tab x)) :
    Calls Try.prog 23 #[.pointer (some ⟨c, 0, none⟩), v] w fun e w' => ∃ v', e = .returned v' ∧ Own w' w.heap.size 5 v' (u8l (tab (backF W x))) ∧ Below w.heap.size w w' := by
  obtain ⟨aw, cw, vb, vk, h⟩ := hC
  exact rback_any w c aw cw vb vk W hW h v x hx hv

set_option maxHeartbeats 4000000 in
set_option maxRecDepth 100000 in
theorem r6xored_any (w : World) (v u : Value) (X Y : Nat → Nat) (bX : Bytes16 X) (bY : Bytes16 Y) (hv : TextAt w v (tab X)) (hu : TextAt w u (tab Y)) :
    Calls Try.prog 55 #[v, u] w fun e w' => ∃ v', e = .returned v' ∧ Own w' w.heap.size 5 v' (u8l (tab (xor16 X Y))) ∧ Below w.heap.size w w' := by
  obtain ⟨ax, cx, rfl, nx⟩ := hv.nth
  obtain ⟨ay, cy, rfl, ny⟩ := hu.nth
  rw [length_tab] at nx ny
  simp only [length_tab]
  replace hv := Lib.hid hv
  replace hu := Lib.hid hu
  replace nx := Lib.hid nx
  replace ny := Lib.hid ny
  replace bX := Lib.hid bX
  replace bY := Lib.hid bY
  go_enter Try.func55, Try.ntmps55
  go_wp2_with fail
  go_loopw [5, 6] (fun o i wr => ∃ k : Nat, k ≤ 16 ∧ i = .int .i64 k ∧ Own wr w.heap.size 5 o (u8l (bytesOf (xor16 X Y) k)) ∧ Below w.heap.size w wr) (fun _ i _ => 16 - (intOf i).toNat)
  case atStart => exact ⟨0, Nat.zero_le _, rfl, Own.nil _ _ _, Below.refl _ _⟩
  case round =>
    obtain ⟨k, hk, rfl, hO, hB⟩ := hrel
    by_cases hlt : k < 16
    · obtain ⟨xb, xo, rfl, cX⟩ := nx.out k hlt
      obtain ⟨yb, yo, rfl, cY⟩ := ny.out k hlt
      rw [byt_tab X hlt] at cX
      rw [byt_tab Y hlt] at cY
      have bx := bX.out k hlt
      have by' := bY.out k hlt
      have keyX : ∀ w1, Below w.heap.size w w1 → w1.cell? ⟨xb, xo + k, none⟩ = some (.int .u8 (X k : Int)) := fun w1 hB1 => (hB1.cell (block_lt_of_cell cX)).trans cX
      have keyY : ∀ w1, Below w.heap.size w w1 → w1.cell? ⟨yb, yo + k, none⟩ = some (.int .u8 (Y k : Int)) := fun w1 hB1 => (hB1.cell (block_lt_of_cell cY)).trans cY
      have ev := u8_xor_nat (X k) (Y k) bx by'
      have ld : xor16 X Y k < 256 := xor_lt8 bx by'
      have ed : X k ^^^ Y k = xor16 X Y k := rfl
      rw [ed] at ev
      have sn := bytesOf_snoc (xor16 X Y) k
      have hs := hB.size
      have ll : (bytesOf (xor16 X Y) k).length = k := length_bytesOf _ _
      generalize bytesOf (xor16 X Y) k = L at *
      generalize xor16 X Y k = d at *
      generalize X k = x at *
      generalize Y k = y at *
      have iX : (k : Int) < 16 := by omega
      have hBd : Below w.heap.size w wr.drew := hB.drew
      have c1 := keyX _ hBd
      have c2 := keyY _ hBd
      have t1 := lit1 (wx := wr.drew) ld
      have hB1 : Below w.heap.size w (wr.drew.alloc (.cells #[.int .u8 (d : Int)] 5)) := hBd.alloc hs _
      have O1 : Own (wr.drew.alloc (.cells #[.int .u8 (d : Int)] 5)) w.heap.size 5 _ _ := hO.drew.alloc _
      clear cX cY ed
      replace hO := Lib.hid hO
      replace hB := Lib.hid hB
      replace sn := Lib.hid sn
      replace keyX := Lib.hid keyX
      replace keyY := Lib.hid keyY
      replace bx := Lib.hid bx
      replace by' := Lib.hid by'
      replace ld := Lib.hid ld
      replace t1 := Lib.hid t1
      replace hB1 := Lib.hid hB1
      replace O1 := Lib.hid O1
      replace hBd := Lib.hid hBd
      go_wp2_with fail
      refine wp_region_held_drew (S := (fun w' => w'.cell? ⟨xb, xo + k, none⟩ = some (.int .u8 (x : Int)) ∧ w'.cell? ⟨yb, yo + k, none⟩ = some (.int .u8 (y : Int)))) (by kernel_rfl) (⟨c1, c2⟩) (fun hHeld => ?_)
      refine held_take (i := 0) (v := ?_) rfl (by kernel_rfl) (by kernel_rfl) (by kernel_rfl) (fun _ _ _ h => h) (Or.inl ⟨by rfl, ?_⟩) (by assumption) ?_
      rotate_left
      · intro w hSw; (try dsimp only at hSw); go_simp; try with_reducible rfl
      try simp only [Act.put, List.setIfInBounds_toArray, List.set_cons_zero, List.set_cons_succ]
      refine held_take (i := 1) (v := ?_) rfl (by kernel_rfl) (by kernel_rfl) (by kernel_rfl) (fun _ _ _ h => h) (Or.inl ⟨by rfl, ?_⟩) (by assumption) ?_
      rotate_left
      · intro w hSw; (try dsimp only at hSw); go_simp; try with_reducible rfl
      try simp only [Act.put, List.setIfInBounds_toArray, List.set_cons_zero, List.set_cons_succ]
      refine held_take (i := 2) (v := ?_) rfl (by kernel_rfl) (by kernel_rfl) (by kernel_rfl) (fun _ _ _ h => h) (Or.inl ⟨by rfl, ?_⟩) (by assumption) ?_
      rotate_left
      · intro w hSw; (try dsimp only at hSw); go_simp; try with_reducible rfl
      try simp only [Act.put, List.setIfInBounds_toArray, List.set_cons_zero, List.set_cons_succ]
      refine held_take (i := 3) (v := ?_) rfl (by kernel_rfl) (by kernel_rfl) (by kernel_rfl) (fun _ _ _ h => h) (Or.inl ⟨by rfl, ?_⟩) (by assumption) ?_
      rotate_left
      · intro w hSw; (try dsimp only at hSw); go_simp; try with_reducible rfl
      try simp only [Act.put, List.setIfInBounds_toArray, List.set_cons_zero, List.set_cons_succ]
      refine held_take (i := 4) (v := ?_) rfl (by kernel_rfl) (by kernel_rfl) (by kernel_rfl) (fun _ _ _ h => h) (Or.inl ⟨by rfl, ?_⟩) (by assumption) ?_
      rotate_left
      · intro w hSw; (try dsimp only at hSw); go_simp; try with_reducible rfl
      try simp only [Act.put, List.setIfInBounds_toArray, List.set_cons_zero, List.set_cons_succ]
      refine held_take (i := 5) (v := ?_) rfl (by kernel_rfl) (by kernel_rfl) (by kernel_rfl) (fun _ _ _ h => h) (Or.inl ⟨by rfl, ?_⟩) (by assumption) ?_
      rotate_left
      · intro w hSw; (try dsimp only at hSw); go_simp; try with_reducible rfl
      try simp only [Act.put, List.setIfInBounds_toArray, List.set_cons_zero, List.set_cons_succ]
      refine held_take (i := 6) (v := ?_) rfl (by kernel_rfl) (by kernel_rfl) (by kernel_rfl) (fun _ _ _ h => h) (Or.inl ⟨by rfl, ?_⟩) (by assumption) ?_
      rotate_left
      · intro w hSw; (try dsimp only at hSw); go_simp; try with_reducible rfl
      try simp only [Act.put, List.setIfInBounds_toArray, List.set_cons_zero, List.set_cons_succ]
      refine held_take (i := 7) (v := ?_) rfl (by kernel_rfl) (by kernel_rfl) (by kernel_rfl) (fun _ _ _ h => h) (Or.inl ⟨by rfl, ?_⟩) (by assumption) ?_
      rotate_left
      · intro w hSw; (try dsimp only at hSw); go_simp; try with_reducible rfl
      try simp only [Act.put, List.setIfInBounds_toArray, List.set_cons_zero, List.set_cons_succ]
      refine held_take (i := 8) (v := ?_) rfl (by kernel_rfl) (by kernel_rfl) (by kernel_rfl) (fun _ _ _ h => h) (Or.inl ⟨by rfl, ?_⟩) (by assumption) ?_
      rotate_left
      · intro w hSw; (try dsimp only at hSw); go_simp; try with_reducible rfl
      try simp only [Act.put, List.setIfInBounds_toArray, List.set_cons_zero, List.set_cons_succ]
      refine held_take (i := 9) (v := ?_) rfl (by kernel_rfl) (by kernel_rfl) (by kernel_rfl) (fun _ _ _ h => h) (Or.inl ⟨by rfl, ?_⟩) (by assumption) ?_
      rotate_left
      · intro w hSw; (try dsimp only at hSw); go_simp; try with_reducible rfl
      try simp only [Act.put, List.setIfInBounds_toArray, List.set_cons_zero, List.set_cons_succ]
      refine held_ready (i := 10) rfl (by kernel_rfl) (fun K hK => ?_)
      rw [if_pos (by rfl)]
      go_simp
      refine hK.out _ _ (⟨keyX.out _ hB1.out, keyY.out _ hB1.out⟩) (fun hHeldN => ?_)
      clear hHeld hK K
      have hHeld := hHeldN
      clear hHeldN
      try simp only [Act.put, List.setIfInBounds_toArray, List.set_cons_zero, List.set_cons_succ]
      refine held_ready (i := 11) rfl (by kernel_rfl) (fun K hK => ?_)
      rw [if_pos (by rfl)]
      refine wp_append_t (.tmp 11) (.tmp 21) rfl w.heap.size w _ L rfl O1.out hB1.out hB1.out.size _ [d] rfl t1.out (by rw [ll]; simp; omega) ?_
      intro v1 w1 O2 B2 G2 H2
      rw [← sn.out] at O2
      refine hK.out _ _ (⟨keyX.out _ B2.out, keyY.out _ B2.out⟩) (fun hHeldN => ?_)
      clear hHeld hK K
      have hHeld := hHeldN
      clear hHeldN
      try simp only [Act.put, List.setIfInBounds_toArray, List.set_cons_zero, List.set_cons_succ]
      refine held_take (i := 12) (v := ?_) rfl (by kernel_rfl) (by kernel_rfl) (by kernel_rfl) (fun _ _ _ h => h) (Or.inl ⟨by rfl, ?_⟩) (by assumption) ?_
      rotate_left
      · intro w hSw; (try dsimp only at hSw); go_simp; try with_reducible rfl
      try simp only [Act.put, List.setIfInBounds_toArray, List.set_cons_zero, List.set_cons_succ]
      refine wpAnyH_done (by kernel_rfl) ?_ _
      clear hHeld
      go_wp2_with fail
      go_roundw
      case rel => exact ⟨k + 1, by omega, by go_num, O2.out, B2.out⟩
      case measure => simp [intOf]; omega
    · obtain rfl : k = 16 := by omega
      replace hO := Lib.hid hO
      replace hB := Lib.hid hB
      go_wp2_with fail
      go_ret
      exact ⟨_, rfl, hO.out, hB.out⟩

theorem blk_cut {l : List Nat} {k a : Nat} (ea : a = 16 * k) (h : a + 16 ≤ l.length) : (l.drop a).take 16 = tab (blk (byt l) k) := by
  rw [cut_bytes h, ea]; rfl

set_option maxHeartbeats 4000000 in
set_option maxRecDepth 100000 in
theorem r6turn_bad (w : World) (vx vy vt : Value) (ao : Option Addr) (n cap : Nat) (hn : n < 9223372036854775808) (hb : sectorB n = false) :
    Calls Try.prog 32 #[vx, vy, vt, .slice ao n cap, .bool false] w fun e w' => e = .returned (.tuple #[.slice none 0 0, .int .i64 3]) ∧ Below w.heap.size w w' := by
  have hf := of_decide_eq_false hb
  clear hb
  have hm : ((n : Int)).tmod 16 = ((n % 16 : Nat) : Int) := by rw [Int.tmod_eq_emod_of_nonneg (by omega)]; omega
  by_cases h0 : n = 0
  · subst h0
    go_enter Try.func32, Try.ntmps32
    go_wp2_with fail
    go_ret2
    exact ⟨rfl, Below.refl _ _⟩
  · have d0 : ((n : Int) == 0) = false := beq_eq_false_iff_ne.2 (by omega)
    by_cases h1 : n % 16 = 0
    · rw [h1] at hm
      have d2 : decide ((n : Int) > 65536) = true := decide_eq_true (by omega)
      go_enter Try.func32, Try.ntmps32
      go_wp2_with fail
      go_ret2
      exact ⟨rfl, Below.refl _ _⟩
    · have d2 : (((n % 16 : Nat) : Int) == 0) = false := beq_eq_false_iff_ne.2 (by omega)
      have d3 : (((n % 16 : Nat) : Int) != 0) = true := by rw [bne, d2]; rfl
      generalize n % 16 = m at *
      go_enter Try.func32, Try.ntmps32
      go_wp2_with fail
      go_ret2
      exact ⟨rfl, Below.refl _ _⟩

set_option maxHeartbeats 4000000 in
set_option maxRecDepth 100000 in
theorem r6turn_ok (w : World) (c1 c2 : Nat) (V W : Nat → Nat) (h1 : RefAt w c1 V) (h2 : RefAt w c2 W) (hV : ∀ i, V i < 256) (hW : ∀ i, W i < 256) (vt : Value) (tw : Nat → Nat) (ht : Bytes16 tw) (htw : TextAt w vt (tab tw)) (ao : Option Addr) (l : List Nat) (n cap : Nat) (en : l.length = n) (hl : TextAt w (.slice ao n cap) l) (hs : sectorB n = true) :
    Calls Try.prog 32 #[.pointer (some ⟨c1, 0, none⟩), .pointer (some ⟨c2, 0, none⟩), vt, .slice ao n cap, .bool false] w fun e w' => ∃ v, e = .returned (.tuple #[v, .int .i64 0]) ∧ Own w' w.heap.size 5 v (u8l (bytesOf (sec (turnF V) (turnF W tw) (byt l)) n)) ∧ Below w.heap.size w w' := by
  obtain ⟨hn0, hn16, hnm⟩ := of_decide_eq_true hs
  have hm : ((n : Int)).tmod 16 = 0 := by rw [Int.tmod_eq_emod_of_nonneg (by omega)]; omega
  have d0 : ((n : Int) == 0) = false := beq_eq_false_iff_ne.2 (by omega)
  have d2 : decide ((n : Int) > 65536) = false := decide_eq_false (by omega)
  have ct := rturn_at h2 hW vt tw ht htw
  obtain ⟨m, em⟩ : ∃ m, n = 16 * m := ⟨n / 16, by omega⟩
  have bM := bytes_turn hW ht
  obtain ⟨M, eM⟩ : ∃ M, M = turnF W tw := ⟨_, rfl⟩
  rw [← eM] at ct bM ⊢
  obtain ⟨F, eF⟩ : ∃ F, F = sec (turnF V) M (byt l) := ⟨_, rfl⟩
  rw [← eF]
  have sl := hl.small
  have hcap : n ≤ cap := by
    obtain ⟨a', c', e, q, _⟩ := hl.ex
    injection e with _ e2 e3
    omega
  have cuts := fun k (hk : k < m) => TextAt.cut (lo := 16 * k) (hi := 16 * k + 16) (by rw [en]; exact hl) (by omega) (by omega)
  have cutt : ∀ k, k < m → TextAt w (.slice (cutA ao cap (16 * k)) 16 (cap - 16 * k)) (tab (blk (byt l) k)) := fun k hk => by
    have h := cuts k hk
    rwa [show 16 * k + 16 - 16 * k = 16 by omega, blk_cut rfl (by omega)] at h
  clear cuts
  replace h1 := Lib.hid h1
  replace h2 := Lib.hid h2
  replace hV := Lib.hid hV
  replace hW := Lib.hid hW
  replace ht := Lib.hid ht
  replace htw := Lib.hid htw
  replace hl := Lib.hid hl
  replace hs := Lib.hid hs
  replace en := Lib.hid en
  replace hn0 := Lib.hid hn0
  replace hn16 := Lib.hid hn16
  replace hnm := Lib.hid hnm
  replace em := Lib.hid em
  replace bM := Lib.hid bM
  replace eM := Lib.hid eM
  replace eF := Lib.hid eF
  replace sl := Lib.hid sl
  replace hcap := Lib.hid hcap
  replace cutt := Lib.hid cutt
  replace ct := Lib.hid ct
  go_enter Try.func32, Try.ntmps32
  go_wp2_with fail
  refine ct.out.mono ?_
  rintro e w1 ⟨v1, rfl, o1, B1⟩
  have t1 := o1.text (tabs_lt bM.out)
  clear ct
  replace o1 := Lib.hid o1
  replace B1 := Lib.hid B1
  replace t1 := Lib.hid t1
  go_wp2_with fail
  go_loopw [12, 13, 14] (fun vm vo i wr => ∃ k a : Nat, k ≤ m ∧ a = 16 * k ∧ i = .int .i64 a ∧ Own wr w.heap.size 5 vm (u8l (tab (maskTo M k))) ∧ Own wr w.heap.size 5 vo (u8l (bytesOf F (16 * k))) ∧ Apart vm vo ∧ Below w.heap.size w wr) (fun _ _ i _ => n - (intOf i).toNat)
  case atStart => exact ⟨0, 0, Nat.zero_le _, rfl, rfl, o1.out, Own.nil _ _ _, fun q _ e => by simp [Value.ownBlock] at e, B1.out⟩
  case round =>
    clear o1 B1 t1
    obtain ⟨k, a, hk, ea, rfl, hM, hO, hA, hB⟩ := hrel
    by_cases hlt : k < m
    · have hn16k : a + 16 ≤ n := by have := em.out; omega
      have hn9 := hnm.out
      have d : decide ((a : Int) < (n : Int)) = true := decide_eq_true (by omega)
      have dn : decide (a < n) = true := decide_eq_true (by omega)
      have hcut := run_cut_lh (P := Try.prog) (T := 29) (e := 5) Try.underlying29 (by kernel_rfl) ao n cap a (a + 16) (by omega) (by have := hcap.out; omega) (a : Int) ((a : Int) + 16) rfl (by omega)
      rw [show a + 16 - a = 16 by omega] at hcut
      have tk := (cutt.out k hlt).below hB
      rw [← ea] at tk
      have cc := ref_copy wr _ _ tk (by rw [length_tab]; decide)
      have f0 : IntKind.i64.wrap ((a : Int) + 16) = (a : Int) + 16 := IntWalk.i64_in _ (by omega)
      have bX : Bytes16 (blk (byt l) k) := fun i hi => byt_lt sl.out _
      have en1 : bytesOf F (16 * (k + 1)) = bytesOf F (16 * k) ++ tab (under (turnF V) (maskTo M k) (blk (byt l) k)) := by rw [eF.out]; exact sec_next _ _ _ _
      have nl : (bytesOf F (16 * k)).length = 16 * k := length_bytesOf _ _
      have bK := maskTo_lt bM.out k
      have hT := hM.text (tabs_lt bK)
      have em1 : dblM (maskTo M k) = maskTo M (k + 1) := rfl
      generalize blk (byt l) k = X at *
      generalize maskTo M k = mk at *
      generalize bytesOf F (16 * k) = out at *
      clear tk
      replace ea := Lib.hid ea
      replace hT := Lib.hid hT
      replace hM := Lib.hid hM
      replace hA := Lib.hid hA
      replace hO := Lib.hid hO
      replace hB := Lib.hid hB
      replace hn16k := Lib.hid hn16k
      replace bX := Lib.hid bX
      replace en1 := Lib.hid en1
      replace nl := Lib.hid nl
      replace hk := Lib.hid hk
      replace hn9 := Lib.hid hn9
      replace bK := Lib.hid bK
      replace em1 := Lib.hid em1
      replace cc := Lib.hid cc
      go_wp2_with fail
      refine cc.out.mono ?_
      rintro e w2 ⟨v2, rfl, o2, B2⟩
      have low2 := hB.out.trans (B2.mono hB.out.size)
      have B22 := Lib.hid B2
      have hT2 := hT.out.below B2
      have cx := r6xored_any w2 v2 _ X mk bX.out bK.out (o2.text (tabs_lt bX.out)) hT2
      have hO2 := hO.out.below B2
      clear cc hB hT hO B2 o2
      replace low2 := Lib.hid low2
      replace hT2 := Lib.hid hT2
      replace cx := Lib.hid cx
      replace hO2 := Lib.hid hO2
      go_wp2_with fail
      refine cx.out.mono ?_
      rintro e w3 ⟨v3, rfl, o3, B3⟩
      have low3 := low2.out.trans (B3.mono low2.out.size)
      have B33 := Lib.hid (B22.out.trans (B3.mono B22.out.size))
      have hT3 := hT2.out.below B3
      have hO3 := hO2.out.below B3
      have b3 := xor16_lt bX.out bK.out
      have cy := rturn_at (h1.out.below low3) hV.out v3 (xor16 X mk) b3 (o3.text (tabs_lt b3))
      clear cx low2 hT2 hO2 B3 o3
      replace low3 := Lib.hid low3
      replace hT3 := Lib.hid hT3
      replace cy := Lib.hid cy
      replace hO3 := Lib.hid hO3
      replace b3 := Lib.hid b3
      go_wp2_with fail
      refine cy.out.mono ?_
      rintro e w4 ⟨v4, rfl, o4, B4⟩
      have low4 := low3.out.trans (B4.mono low3.out.size)
      have B44 := Lib.hid (B33.out.trans (B4.mono B33.out.size))
      have hT4 := hT3.out.below B4
      have hO4 := hO3.out.below B4
      have b4 := bytes_turn hV.out b3.out
      have cz := r6xored_any w4 v4 _ _ mk b4 bK.out (o4.text (tabs_lt b4)) hT4
      rw [show xor16 (turnF V (xor16 X mk)) mk = under (turnF V) mk X from rfl] at cz
      have b5 : Bytes16 (under (turnF V) mk X) := xor16_lt b4 bK.out
      clear cy low3 hT3 hO3 B4 o4 b4
      generalize under (turnF V) mk X = U at *
      replace low4 := Lib.hid low4
      replace hT4 := Lib.hid hT4
      replace cz := Lib.hid cz
      replace hO4 := Lib.hid hO4
      replace b5 := Lib.hid b5
      go_wp2_with fail
      refine cz.out.mono ?_
      rintro e w5 ⟨v5, rfl, o5, B5⟩
      have low5 := low4.out.trans (B5.mono low4.out.size)
      have B55 := Lib.hid (B44.out.trans (B5.mono B44.out.size))
      have hT5 := hT4.out.below B5
      have hO5 := hO4.out.below B5
      have tU := o5.text (tabs_lt b5.out)
      have lZ : out.length + (tab U).length ≤ 1000000000 := by rw [length_tab, nl.out]; have := hn9.out; have := hn16k.out; have := ea.out; omega
      have hM5 := hM.out.below B55.out
      clear cz low4 hT4 hO4 B5 o5
      replace low5 := Lib.hid low5
      replace hT5 := Lib.hid hT5
      replace hO5 := Lib.hid hO5
      replace tU := Lib.hid tU
      replace hM5 := Lib.hid hM5
      go_wp2_with (at_builtin; refine wpList_append_t (by rfl) (.tmp 54) (.tmp 57) rfl w.heap.size w _ out rfl hO5.out low5.out low5.out.size v5 (tab U) rfl tU.out lZ ?_; intro v9 w9 O9 B9 G9 H9)
      have hM9 := hM5.out.other fun q hq => G9.out.block q (hM5.out.lt q hq).2 fun e => hA.out q hq e.symm
      have cd := ref_double w9 _ mk bK.out (hM9.text (tabs_lt bK.out))
      clear hM9 hM5 hT5 hO5 G9 H9
      replace cd := Lib.hid cd
      refine cd.out.mono ?_
      rintro e wa ⟨va, rfl, oa, Ba⟩
      have low9 := B9.out.trans (Ba.mono B9.out.size)
      have hO9 := O9.out.below Ba
      have hA9 : Apart va v9 := fun q hq e => by have h1 := (oa.lt q hq).1; have h2 := (O9.out.lt q e).2; omega
      have oa' := oa.weaken B9.out.size
      rw [em1.out] at oa'
      rw [← en1.out] at hO9
      clear cd O9 B9 oa Ba
      replace low9 := Lib.hid low9
      replace hO9 := Lib.hid hO9
      replace hA9 := Lib.hid hA9
      replace oa' := Lib.hid oa'
      go_wp2_with fail
      go_roundw
      case rel => exact ⟨k + 1, a + 16, by omega, by have := ea.out; omega, by go_num, oa'.out, hO9.out, hA9.out, low9.out⟩
      case measure => simp [intOf]; have := hn16k.out; omega
    · obtain rfl : k = m := by omega
      have ean : a = n := by have := em.out; omega
      subst ean
      have d : decide ((a : Int) < (a : Int)) = false := decide_eq_false (by omega)
      have dn : decide (a < a) = false := decide_eq_false (by omega)
      rw [← ea] at hO
      replace hM := Lib.hid hM
      replace hA := Lib.hid hA
      replace hO := Lib.hid hO
      replace hB := Lib.hid hB
      replace ea := Lib.hid ea
      replace em := Lib.hid em
      go_wp2_with fail
      go_ret2
      exact ⟨_, rfl, hO.out, hB.out⟩
set_option maxHeartbeats 4000000 in
set_option maxRecDepth 100000 in
theorem r6back_bad (w : World) (vx vy vt : Value) (ao : Option Addr) (n cap : Nat) (hn : n < 9223372036854775808) (hb : sectorB n = false) :
    Calls Try.prog 32 #[vx, vy, vt, .slice ao n cap, .bool true] w fun e w' => e = .returned (.tuple #[.slice none 0 0, .int .i64 3]) ∧ Below w.heap.size w w' := by
  have hf := of_decide_eq_false hb
  clear hb
  have hm : ((n : Int)).tmod 16 = ((n % 16 : Nat) : Int) := by rw [Int.tmod_eq_emod_of_nonneg (by omega)]; omega
  by_cases h0 : n = 0
  · subst h0
    go_enter Try.func32, Try.ntmps32
    go_wp2_with fail
    go_ret2
    exact ⟨rfl, Below.refl _ _⟩
  · have d0 : ((n : Int) == 0) = false := beq_eq_false_iff_ne.2 (by omega)
    by_cases h1 : n % 16 = 0
    · rw [h1] at hm
      have d2 : decide ((n : Int) > 65536) = true := decide_eq_true (by omega)
      go_enter Try.func32, Try.ntmps32
      go_wp2_with fail
      go_ret2
      exact ⟨rfl, Below.refl _ _⟩
    · have d2 : (((n % 16 : Nat) : Int) == 0) = false := beq_eq_false_iff_ne.2 (by omega)
      have d3 : (((n % 16 : Nat) : Int) != 0) = true := by rw [bne, d2]; rfl
      generalize n % 16 = m at *
      go_enter Try.func32, Try.ntmps32
      go_wp2_with fail
      go_ret2
      exact ⟨rfl, Below.refl _ _⟩

set_option maxHeartbeats 4000000 in
set_option maxRecDepth 100000 in
theorem r6back_ok (w : World) (c1 c2 : Nat) (V W : Nat → Nat) (h1 : RefAt w c1 V) (h2 : RefAt w c2 W) (hV : ∀ i, V i < 256) (hW : ∀ i, W i < 256) (vt : Value) (tw : Nat → Nat) (ht : Bytes16 tw) (htw : TextAt w vt (tab tw)) (ao : Option Addr) (l : List Nat) (n cap : Nat) (en : l.length = n) (hl : TextAt w (.slice ao n cap) l) (hs : sectorB n = true) :
    Calls Try.prog 32 #[.pointer (some ⟨c1, 0, none⟩), .pointer (some ⟨c2, 0, none⟩), vt, .slice ao n cap, .bool true] w fun e w' => ∃ v, e = .returned (.tuple #[v, .int .i64 0]) ∧ Own w' w.heap.size 5 v (u8l (bytesOf (sec (backF V) (turnF W tw) (byt l)) n)) ∧ Below w.heap.size w w' := by
  obtain ⟨hn0, hn16, hnm⟩ := of_decide_eq_true hs
  have hm : ((n : Int)).tmod 16 = 0 := by rw [Int.tmod_eq_emod_of_nonneg (by omega)]; omega
  have d0 : ((n : Int) == 0) = false := beq_eq_false_iff_ne.2 (by omega)
  have d2 : decide ((n : Int) > 65536) = false := decide_eq_false (by omega)
  have ct := rturn_at h2 hW vt tw ht htw
  obtain ⟨m, em⟩ : ∃ m, n = 16 * m := ⟨n / 16, by omega⟩
  have bM := bytes_turn hW ht
  obtain ⟨M, eM⟩ : ∃ M, M = turnF W tw := ⟨_, rfl⟩
  rw [← eM] at ct bM ⊢
  obtain ⟨F, eF⟩ : ∃ F, F = sec (backF V) M (byt l) := ⟨_, rfl⟩
  rw [← eF]
  have sl := hl.small
  have hcap : n ≤ cap := by
    obtain ⟨a', c', e, q, _⟩ := hl.ex
    injection e with _ e2 e3
    omega
  have cuts := fun k (hk : k < m) => TextAt.cut (lo := 16 * k) (hi := 16 * k + 16) (by rw [en]; exact hl) (by omega) (by omega)
  have cutt : ∀ k, k < m → TextAt w (.slice (cutA ao cap (16 * k)) 16 (cap - 16 * k)) (tab (blk (byt l) k)) := fun k hk => by
    have h := cuts k hk
    rwa [show 16 * k + 16 - 16 * k = 16 by omega, blk_cut rfl (by omega)] at h
  clear cuts
  replace h1 := Lib.hid h1
  replace h2 := Lib.hid h2
  replace hV := Lib.hid hV
  replace hW := Lib.hid hW
  replace ht := Lib.hid ht
  replace htw := Lib.hid htw
  replace hl := Lib.hid hl
  replace hs := Lib.hid hs
  replace en := Lib.hid en
  replace hn0 := Lib.hid hn0
  replace hn16 := Lib.hid hn16
  replace hnm := Lib.hid hnm
  replace em := Lib.hid em
  replace bM := Lib.hid bM
  replace eM := Lib.hid eM
  replace eF := Lib.hid eF
  replace sl := Lib.hid sl
  replace hcap := Lib.hid hcap
  replace cutt := Lib.hid cutt
  replace ct := Lib.hid ct
  go_enter Try.func32, Try.ntmps32
  go_wp2_with fail
  refine ct.out.mono ?_
  rintro e w1 ⟨v1, rfl, o1, B1⟩
  have t1 := o1.text (tabs_lt bM.out)
  clear ct
  replace o1 := Lib.hid o1
  replace B1 := Lib.hid B1
  replace t1 := Lib.hid t1
  go_wp2_with fail
  go_loopw [12, 13, 14] (fun vm vo i wr => ∃ k a : Nat, k ≤ m ∧ a = 16 * k ∧ i = .int .i64 a ∧ Own wr w.heap.size 5 vm (u8l (tab (maskTo M k))) ∧ Own wr w.heap.size 5 vo (u8l (bytesOf F (16 * k))) ∧ Apart vm vo ∧ Below w.heap.size w wr) (fun _ _ i _ => n - (intOf i).toNat)
  case atStart => exact ⟨0, 0, Nat.zero_le _, rfl, rfl, o1.out, Own.nil _ _ _, fun q _ e => by simp [Value.ownBlock] at e, B1.out⟩
  case round =>
    clear o1 B1 t1
    obtain ⟨k, a, hk, ea, rfl, hM, hO, hA, hB⟩ := hrel
    by_cases hlt : k < m
    · have hn16k : a + 16 ≤ n := by have := em.out; omega
      have hn9 := hnm.out
      have d : decide ((a : Int) < (n : Int)) = true := decide_eq_true (by omega)
      have dn : decide (a < n) = true := decide_eq_true (by omega)
      have hcut := run_cut_lh (P := Try.prog) (T := 29) (e := 5) Try.underlying29 (by kernel_rfl) ao n cap a (a + 16) (by omega) (by have := hcap.out; omega) (a : Int) ((a : Int) + 16) rfl (by omega)
      rw [show a + 16 - a = 16 by omega] at hcut
      have tk := (cutt.out k hlt).below hB
      rw [← ea] at tk
      have cc := ref_copy wr _ _ tk (by rw [length_tab]; decide)
      have f0 : IntKind.i64.wrap ((a : Int) + 16) = (a : Int) + 16 := IntWalk.i64_in _ (by omega)
      have bX : Bytes16 (blk (byt l) k) := fun i hi => byt_lt sl.out _
      have en1 : bytesOf F (16 * (k + 1)) = bytesOf F (16 * k) ++ tab (under (backF V) (maskTo M k) (blk (byt l) k)) := by rw [eF.out]; exact sec_next _ _ _ _
      have nl : (bytesOf F (16 * k)).length = 16 * k := length_bytesOf _ _
      have bK := maskTo_lt bM.out k
      have hT := hM.text (tabs_lt bK)
      have em1 : dblM (maskTo M k) = maskTo M (k + 1) := rfl
      generalize blk (byt l) k = X at *
      generalize maskTo M k = mk at *
      generalize bytesOf F (16 * k) = out at *
      clear tk
      replace ea := Lib.hid ea
      replace hT := Lib.hid hT
      replace hM := Lib.hid hM
      replace hA := Lib.hid hA
      replace hO := Lib.hid hO
      replace hB := Lib.hid hB
      replace hn16k := Lib.hid hn16k
      replace bX := Lib.hid bX
      replace en1 := Lib.hid en1
      replace nl := Lib.hid nl
      replace hk := Lib.hid hk
      replace hn9 := Lib.hid hn9
      replace bK := Lib.hid bK
      replace em1 := Lib.hid em1
      replace cc := Lib.hid cc
      go_wp2_with fail
      refine cc.out.mono ?_
      rintro e w2 ⟨v2, rfl, o2, B2⟩
      have low2 := hB.out.trans (B2.mono hB.out.size)
      have B22 := Lib.hid B2
      have hT2 := hT.out.below B2
      have cx := r6xored_any w2 v2 _ X mk bX.out bK.out (o2.text (tabs_lt bX.out)) hT2
      have hO2 := hO.out.below B2
      clear cc hB hT hO B2 o2
      replace low2 := Lib.hid low2
      replace hT2 := Lib.hid hT2
      replace cx := Lib.hid cx
      replace hO2 := Lib.hid hO2
      go_wp2_with fail
      refine cx.out.mono ?_
      rintro e w3 ⟨v3, rfl, o3, B3⟩
      have low3 := low2.out.trans (B3.mono low2.out.size)
      have B33 := Lib.hid (B22.out.trans (B3.mono B22.out.size))
      have hT3 := hT2.out.below B3
      have hO3 := hO2.out.below B3
      have b3 := xor16_lt bX.out bK.out
      have cy := rback_at (h1.out.below low3) hV.out v3 (xor16 X mk) b3 (o3.text (tabs_lt b3))
      clear cx low2 hT2 hO2 B3 o3
      replace low3 := Lib.hid low3
      replace hT3 := Lib.hid hT3
      replace cy := Lib.hid cy
      replace hO3 := Lib.hid hO3
      replace b3 := Lib.hid b3
      go_wp2_with fail
      refine cy.out.mono ?_
      rintro e w4 ⟨v4, rfl, o4, B4⟩
      have low4 := low3.out.trans (B4.mono low3.out.size)
      have B44 := Lib.hid (B33.out.trans (B4.mono B33.out.size))
      have hT4 := hT3.out.below B4
      have hO4 := hO3.out.below B4
      have b4 := bytes_back hV.out b3.out
      have cz := r6xored_any w4 v4 _ _ mk b4 bK.out (o4.text (tabs_lt b4)) hT4
      rw [show xor16 (backF V (xor16 X mk)) mk = under (backF V) mk X from rfl] at cz
      have b5 : Bytes16 (under (backF V) mk X) := xor16_lt b4 bK.out
      clear cy low3 hT3 hO3 B4 o4 b4
      generalize under (backF V) mk X = U at *
      replace low4 := Lib.hid low4
      replace hT4 := Lib.hid hT4
      replace cz := Lib.hid cz
      replace hO4 := Lib.hid hO4
      replace b5 := Lib.hid b5
      go_wp2_with fail
      refine cz.out.mono ?_
      rintro e w5 ⟨v5, rfl, o5, B5⟩
      have low5 := low4.out.trans (B5.mono low4.out.size)
      have B55 := Lib.hid (B44.out.trans (B5.mono B44.out.size))
      have hT5 := hT4.out.below B5
      have hO5 := hO4.out.below B5
      have tU := o5.text (tabs_lt b5.out)
      have lZ : out.length + (tab U).length ≤ 1000000000 := by rw [length_tab, nl.out]; have := hn9.out; have := hn16k.out; have := ea.out; omega
      have hM5 := hM.out.below B55.out
      clear cz low4 hT4 hO4 B5 o5
      replace low5 := Lib.hid low5
      replace hT5 := Lib.hid hT5
      replace hO5 := Lib.hid hO5
      replace tU := Lib.hid tU
      replace hM5 := Lib.hid hM5
      go_wp2_with (at_builtin; refine wpList_append_t (by rfl) (.tmp 54) (.tmp 57) rfl w.heap.size w _ out rfl hO5.out low5.out low5.out.size v5 (tab U) rfl tU.out lZ ?_; intro v9 w9 O9 B9 G9 H9)
      have hM9 := hM5.out.other fun q hq => G9.out.block q (hM5.out.lt q hq).2 fun e => hA.out q hq e.symm
      have cd := ref_double w9 _ mk bK.out (hM9.text (tabs_lt bK.out))
      clear hM9 hM5 hT5 hO5 G9 H9
      replace cd := Lib.hid cd
      refine cd.out.mono ?_
      rintro e wa ⟨va, rfl, oa, Ba⟩
      have low9 := B9.out.trans (Ba.mono B9.out.size)
      have hO9 := O9.out.below Ba
      have hA9 : Apart va v9 := fun q hq e => by have h1 := (oa.lt q hq).1; have h2 := (O9.out.lt q e).2; omega
      have oa' := oa.weaken B9.out.size
      rw [em1.out] at oa'
      rw [← en1.out] at hO9
      clear cd O9 B9 oa Ba
      replace low9 := Lib.hid low9
      replace hO9 := Lib.hid hO9
      replace hA9 := Lib.hid hA9
      replace oa' := Lib.hid oa'
      go_wp2_with fail
      go_roundw
      case rel => exact ⟨k + 1, a + 16, by omega, by have := ea.out; omega, by go_num, oa'.out, hO9.out, hA9.out, low9.out⟩
      case measure => simp [intOf]; have := hn16k.out; omega
    · obtain rfl : k = m := by omega
      have ean : a = n := by have := em.out; omega
      subst ean
      have d : decide ((a : Int) < (a : Int)) = false := decide_eq_false (by omega)
      have dn : decide (a < a) = false := decide_eq_false (by omega)
      rw [← ea] at hO
      replace hM := Lib.hid hM
      replace hA := Lib.hid hA
      replace hO := Lib.hid hO
      replace hB := Lib.hid hB
      replace ea := Lib.hid ea
      replace em := Lib.hid em
      go_wp2_with fail
      go_ret2
      exact ⟨_, rfl, hO.out, hB.out⟩
end Go.Proofs.Ytnadgjlmlnhknaa
