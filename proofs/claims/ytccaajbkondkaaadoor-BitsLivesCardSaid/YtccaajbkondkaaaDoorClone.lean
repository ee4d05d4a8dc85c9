/-
  Package bits: Equal and Clone. No condition beyond the row's own bounds.
-/
import Derived.Test.YtccaajbkondkaaaDoorBits2
namespace Go.Proofs.YtccaajbkondkaaaDoor
open Go.RowKit Go.Maps

/-- Two rows are equal. -/
def Same (n n' : Nat) (L L' : Nat → Nat) : Prop := n = n' ∧ ∀ i, L i = L' i
def EqSays (n n' : Nat) (L L' : Nat → Nat) (w : World) (e : Ending) (w' : World) : Prop :=
  ∃ r : Bool, e = .returned (.bool r) ∧ (r = true ↔ Same n n' L L') ∧ w = w'

set_option maxRecDepth 100000 in
theorem equal_nil (b o : Nat) (w : World) (c0 : w.cell? ⟨b, o, none⟩ = some (.int .i64 0)) :
    Calls Tryd.prog 29 #[.pointer .none, .pointer (some ⟨b, o, none⟩)] w fun e w' => e = .returned (.bool true) ∧ w = w' := by
  go_enter Tryd.func29, Tryd.ntmps29
  go_wp2_with fail
  refine (size_nil _).mono ?_
  rintro e w' ⟨rfl, rfl⟩
  go_wp2_with fail
  refine (size_any _ _ _ _ c0).mono ?_
  rintro e w' ⟨rfl, rfl⟩
  go_wp2_with fail
  refine (size_nil _).mono ?_
  rintro e w' ⟨rfl, rfl⟩
  go_wp2_with fail
  go_loop [13] (fun i => i = .int .i64 0) (fun _ => 0)
  case atStart => rfl
  case round =>
    subst hrel
    go_wp2_with fail
    go_ret
    exact ⟨rfl, rfl⟩

set_option maxRecDepth 100000 in
theorem equal_any {w : World} {b bw bm n m b' bw' bm' n' m' : Nat} {L L' : Nat → Nat} (ha : RowAt w b bw bm n m L) (hb : RowAt w b' bw' bm' n' m' L') :
    Calls Tryd.prog 29 #[.pointer (some ⟨b, 0, none⟩), .pointer (some ⟨b', 0, none⟩)] w (EqSays n n' L L' w) := by
  have hn := ha.hi
  have hn' := hb.hi
  have sa := Lib.hid (size_at ha)
  have sb := Lib.hid (size_at hb)
  have ta := Lib.hid (times_any ha)
  have tb := Lib.hid (times_any hb)
  by_cases hnn : n = n'
  · subst hnn
    have oa := Lib.hid ha.off
    have ob := Lib.hid hb.off
    go_enter Tryd.func29, Tryd.ntmps29
    go_wp2_with fail
    refine sa.out.mono ?_
    rintro e w' ⟨rfl, rfl⟩
    go_wp2_with fail
    refine sb.out.mono ?_
    rintro e w' ⟨rfl, rfl⟩
    go_wp2_with fail
    refine sa.out.mono ?_
    rintro e w' ⟨rfl, rfl⟩
    go_wp2_with fail
    go_loop [13] (fun i => ∃ k : Nat, k ≤ n ∧ (∀ j, j < k → L j = L' j) ∧ i = .int .i64 k) (fun i => n - (intOf i).toNat)
    case atStart => exact ⟨0, Nat.zero_le _, fun j h => by omega, rfl⟩
    case round =>
      obtain ⟨k, hk, hh, rfl⟩ := hrel
      replace hh := Lib.hid hh
      by_cases hlt : k < n
      · have t1 := ta.out k
        have t2 := tb.out k
        unfold timesI at t1 t2
        rw [if_neg (by omega), Int.toNat_natCast] at t1 t2
        have t1 := Lib.hid t1
        have t2 := Lib.hid t2
        go_wp2_with fail
        refine t1.out.mono ?_
        rintro e w' ⟨rfl, rfl⟩
        go_wp2_with fail
        refine t2.out.mono ?_
        rintro e w' ⟨rfl, rfl⟩
        go_wp2_with fail
        · have hx : ((L k : Int) != (L' k : Int)) = true := by assumption
          go_ret
          exact ⟨false, rfl, ⟨fun h => (by cases h), fun h => by have := h.2 k; simp [this] at hx⟩, rfl⟩
        · have hx : ((L k : Int) != (L' k : Int)) = false := by assumption
          go_round
          case rel => exact ⟨k + 1, by omega, fun j hj => by
            by_cases e : j = k
            · subst e; simp at hx; omega
            · exact hh.out j (by omega), by go_num⟩
          case measure => simp [intOf]; omega
      · go_wp2_with fail
        go_ret
        exact ⟨true, rfl, ⟨fun _ => ⟨rfl, fun i => by
          by_cases hi : i < n
          · exact hh.out i (by omega)
          · rw [oa.out i (by omega), ob.out i (by omega)]⟩, fun _ => rfl⟩, rfl⟩
  · have q : ((n : Int) != (n' : Int)) = true := by simp; omega
    go_enter Tryd.func29, Tryd.ntmps29
    go_wp2_with fail
    refine sa.out.mono ?_
    rintro e w' ⟨rfl, rfl⟩
    go_wp2_with fail
    refine sb.out.mono ?_
    rintro e w' ⟨rfl, rfl⟩
    go_wp2_with fail
    go_ret
    exact ⟨false, rfl, ⟨fun h => (by cases h), fun h => absurd h.1 hnn⟩, rfl⟩

/-! ### Clone -/
theorem clone_nil (w : World) : Calls Tryd.prog 28 #[.pointer .none] w fun e w' => e = .returned (.pointer .none) ∧ w = w' := by
  go_enter Tryd.func28, Tryd.ntmps28
  go_wp2_with (go_at_call 26; refine (size_nil _).mono ?_; rintro e w' ⟨rfl, rfl⟩)
  go_ret
  exact ⟨rfl, rfl⟩
theorem clone_zero (b o : Nat) (w : World) (c0 : w.cell? ⟨b, o, none⟩ = some (.int .i64 0)) : Calls Tryd.prog 28 #[.pointer (some ⟨b, o, none⟩)] w fun e w' => e = .returned (.pointer .none) ∧ w = w' := by
  go_enter Tryd.func28, Tryd.ntmps28
  go_wp2_with (go_at_call 26; refine (size_any _ _ _ _ c0).mono ?_; rintro e w' ⟨rfl, rfl⟩)
  go_ret
  exact ⟨rfl, rfl⟩

def CloneSays (n m : Nat) (L : Nat → Nat) (w : World) (e : Ending) (w' : World) : Prop :=
  ∃ b bw bm, w.heap.size ≤ b ∧ w.heap.size ≤ bw ∧ w.heap.size ≤ bm ∧ e = .returned (.pointer (some ⟨b, 0, none⟩)) ∧ RowAt w' b bw bm n m L ∧ Below w.heap.size w w'

theorem info86s : (Tryd.prog.info? 86).map (·.size) = some 1 := by kernel_rfl

theorem words_src {w : World} {b bw bm n m : Nat} {L : Nat → Nat} (hr : RowAt w b bw bm n m L) : ∀ j v, (wordCells L n).toList[j]? = some v → w.cell? ((⟨bw, 0, none⟩ : Addr).add j) = some v := by
  intro j v hv
  rw [Addr.add_lit, Nat.zero_add, cell_of_row _ _ _ _ _ _ hr.words]
  simpa using hv
theorem words_one (L : Nat → Nat) (n : Nat) : ∀ v ∈ (wordCells L n).toList, v.oneCell' = true := by
  intro v hv
  simp only [wordCells, List.mem_map] at hv
  obtain ⟨j, _, rfl⟩ := hv
  rfl
theorem words_whole (L M : Nat → Nat) (n : Nat) : ((wordCells M n).toList.take 0 ++ ((wordCells L n).toList ++ (wordCells M n).toList.drop (0 + (wordCells L n).toList.length))).toArray = wordCells L n := by
  simp [wordCells]

theorem size_le {w : World} {b n : Nat} {D : DataW Unit} (h : w.ownsMap Tryd.prog 3 (plainElem Tryd.prog 3) b n D) : Maps.size D ≤ n := by
  obtain ⟨es, clock, _, _, hs, rfl⟩ := h
  rw [Maps.size_eq, length_sorted]
  simpa using hs

/-- The loop over the map: what is still to come ('left', cnt entries), and what the new map has (k entries at most). -/
def CloneRel (n m : Nat) (L : Nat → Nat) (w : World) (b b' bw' bm bm' r : Nat) (D : DataW Unit) (wr : World) : Prop :=
  ∃ (left : Lit → Bool) (cnt k : Nat) (D2 : DataW Unit), wr.ranges Tryd.prog 3 (plainElem Tryd.prog 3) bm r m D left cnt ∧ wr.ownsMap Tryd.prog 3 (plainElem Tryd.prog 3) bm' k D2 ∧ k + cnt ≤ m ∧
    (∀ i : Nat, i < 65536 → D2.atKey (.int .i64 i) (.lit (.int .i64 0)) = if left (.int .i64 i) = true then .lit (.int .i64 0) else D.atKey (.int .i64 i) (.lit (.int .i64 0))) ∧
    (∃ bw, wr.heap[b]? = some (.cells #[.int .i64 n, .slice (some ⟨bw, 0, none⟩) (nw n) (nw n), .map (some bm), .int .i64 (tk L n)] 47 (0, 0))) ∧
    wr.heap[b']? = some (.cells #[.int .i64 n, .slice (some ⟨bw', 0, none⟩) (nw n) (nw n), .map (some bm'), .int .i64 (tk (fun _ => 0) n)] 47 (0, 0)) ∧
    wr.heap[bw']? = some (.cells (wordCells L n) 86 (0, 0)) ∧ Below w.heap.size w wr

theorem clone_step {n m : Nat} {L : Nat → Nat} {w wr w4 w5 : World} {b b' bw' bm bm' r : Nat} {D D2 : DataW Unit} {left : Lit → Bool} {cnt cnt4 k : Nat} {x c : Int}
    (hrg4 : w4.ranges Tryd.prog 3 (plainElem Tryd.prog 3) bm r m D (fun z => left z && !z.sameKey (.int .i64 x)) cnt4) (hlt4 : cnt4 < cnt)
    (hown : wr.ownsMap Tryd.prog 3 (plainElem Tryd.prog 3) bm' k D2) (hown5 : w5.ownsMap Tryd.prog 3 (plainElem Tryd.prog 3) bm' (k + 1) (D2.put (.int .i64 x) (.lit (.int .i64 c))))
    (hg4 : wr.grownBy w4 (some r)) (hg5 : w4.grownBy w5 (some bm')) (hk : k + cnt ≤ m)
    (hat : ∀ i : Nat, i < 65536 → D2.atKey (.int .i64 i) (.lit (.int .i64 0)) = if left (.int .i64 i) = true then .lit (.int .i64 0) else D.atKey (.int .i64 i) (.lit (.int .i64 0)))
    (hax : ∀ zd, D.atKey (.int .i64 x) zd = .lit (.int .i64 c))
    (a1 : ∃ bw, wr.heap[b]? = some (.cells #[.int .i64 n, .slice (some ⟨bw, 0, none⟩) (nw n) (nw n), .map (some bm), .int .i64 (tk L n)] 47 (0, 0)))
    (a2 : wr.heap[b']? = some (.cells #[.int .i64 n, .slice (some ⟨bw', 0, none⟩) (nw n) (nw n), .map (some bm'), .int .i64 (tk (fun _ => 0) n)] 47 (0, 0)))
    (a3 : wr.heap[bw']? = some (.cells (wordCells L n) 86 (0, 0))) (hB : Below w.heap.size w wr)
    (n1 : b ≠ r) (n2 : b' ≠ r) (n3 : bw' ≠ r) (n4 : bm ≠ bm') (n5 : r ≠ bm') (n9 : w.heap.size ≤ r) (n10 : w.heap.size ≤ bm') :
    CloneRel n m L w b b' bw' bm bm' r D w5 := by
  have keep : ∀ {i : Nat} {o : Obj}, wr.heap[i]? = some o → i ≠ r → i ≠ bm' → w5.heap[i]? = some o := fun {i o} h h1 h2 => by
    have hi := lt_of_block h
    have hs := hg4.size
    rw [hg5.block i (by omega) (by simp; exact h2), hg4.block i hi (by simp; exact h1)]
    exact h
  obtain ⟨bw, a1⟩ := a1
  have hsz := hB.size
  have away : ∀ {i : Nat} {c : Array Value} {ty : TypeId} {fz : Nat × Nat}, wr.heap[i]? = some (.cells c ty fz) → i ≠ bm' := by
    intro i c ty fz h e
    obtain ⟨es, clock, hb, _⟩ := hown
    rw [e, hb] at h; cases h
  have n6 := away a1
  have n7 := away a2
  have n8 := away a3
  refine ⟨_, _, k + 1, _, hrg4.kept hg5 (by simp; omega) (by simp; omega), hown5, by omega, fun i hi => ?_, ⟨bw, keep a1 n1 n6⟩, keep a2 n2 n7, keep a3 n3 n8, ?_⟩
  · have hM := isMap_of hown
    by_cases e : (i : Int) = x
    · subst e
      rw [atKey_put_same hM (by trivial), hax, WideAt.sameKey_self (by trivial)]
      simp
    · have hne : Lit.int .i64 (i : Int) ≠ Lit.int .i64 x := by
        intro h; simp only [Lit.int.injEq, true_and] at h; exact e h
      rw [atKey_put_other hne, sameKey_ne hne, hat i hi]
      simp
  · have h4 := hg4.size
    exact (hB.grown hg4 hsz (fun k hk => by cases hk; exact n9)).grown hg5 (by omega) (fun k hk => by cases hk; exact n10)

set_option maxRecDepth 100000 in
theorem clone_any {w : World} {b bw bm n m : Nat} {L : Nat → Nat} (hr : RowAt w b bw bm n m L) (hm : m < 1000000000000) :
    Calls Tryd.prog 28 #[.pointer (some ⟨b, 0, none⟩)] w (CloneSays n m L w) := by
  have hlo := hr.lo
  have hn := hr.hi
  have c0 := hr.c0
  have c1 := hr.c1
  have c2 := hr.c2
  have c3 := hr.c3
  have sz := Lib.hid (size_at hr)
  have nn : ((n : Int) == 0) = false := by simp; omega
  have nw0 := Lib.hid (bnew_ok n w hr.lo hr.hi)
  go_enter Tryd.func28, Tryd.ntmps28
  go_wp2_with fail
  refine sz.out.mono ?_
  rintro e w' ⟨rfl, rfl⟩
  go_wp2_with fail
  refine nw0.out.mono ?_
  rintro e w1 ⟨b', bw', bm', hb', hbw', hbm', rfl, hr', hB⟩
  have hlt := lt_of_block hr.row
  have hltw := lt_of_block hr.words
  obtain ⟨D, hD, hM⟩ := hr.map
  have hltm := hD.lt
  have hr1 : RowAt w1 b bw bm n m L := hr.stay (S := fun _ => False) (Upd.of_below hB) id id id
  have d0 := hr1.c0
  have d1 := hr1.c1
  have d2 := hr1.c2
  have d3 := hr1.c3
  have d1' := hr'.c1
  have d2' := hr'.c2
  clear c0 c1 c2 c3 hM hD
  go_wp2_with fail
  go_still_tail 8, (by kernel_rfl)
  refine wpList_copy_row rfl (.tmp 21) (.tmp 25) 44 44 rfl 86 Tryd.underlying44 info86s bw' 0 (nw n) (nw n) ⟨bw, 0, none⟩ (nw n) (nw n) rfl rfl (wordCells (fun _ => 0) n) 86 (by exact hr'.words) (wordCells L n).toList (by simp [wordCells]) (words_src (w := w1.drew) hr1.drew) (by simp [wordCells]) (words_one L n) (wordCells L n) (words_whole L _ n) ?_
  intro w2 hw2
  have u2 : Upd (fun k => k = bw') w1.drew w2 := by rw [hw2.out]; exact (Upd.refl _ _).setRow _ _ (fun _ => rfl)
  have q2 : w2.heap[bw']? = some (.cells (wordCells L n) 86 (0, 0)) := by rw [hw2.out]; exact setRow_heap _ _ _ _ _ _ hr'.words
  have ne' := hr'.ne
  have hr2 : RowAt w2 b bw bm n m L := hr1.drew.stay u2 (by omega) (by omega) (by omega)
  have p2 := u2.at hr'.row ne'.1
  obtain ⟨D', hD', hM'⟩ := hr'.map
  have hD2 : w2.ownsMap Tryd.prog 3 (plainElem Tryd.prog 3) bm' 0 D' := ownsMap_at hD' (u2.block bm' hD'.lt ne'.2.2.symm)
  have hB2 : Below w.heap.size w w2 := hB.drew.trans (u2.below (fun k hk e => by omega) (by have := hB.size; simpa using this))
  clear d0 d1 d2 d3 d1' d2' hw2 u2 hD' hr1 hB sz
  obtain ⟨D, hD, hM⟩ := hr2.map
  have e2 := hr2.c2
  replace hM := Lib.hid hM
  replace hM' := Lib.hid hM'
  go_wp2_with (first
    | (at_range; refine wpList_range_own _ rfl _ 45 rfl 3 3 law3 Tryd.underlying45 _ bm m D rfl hD ?_; intro w3 hrg hg3 hs3))
  go_frame
  have hlt2 : bm' < w2.heap.size := hD2.lt
  have hltb : b' < w2.heap.size := lt_of_block p2
  have hltbw : bw' < w2.heap.size := lt_of_block q2
  have hsz2 := hB2.size
  have start : CloneRel n m L w b b' bw' bm bm' w2.heap.size D w3 :=
    ⟨_, _, 0, D', hrg, ownsMap_at hD2 (hg3.block bm' hlt2 (by simp)), by have := size_le hD; omega, fun i hi => by
      rw [hM'.out i hi]
      by_cases hl : Maps.has D (.int .i64 (i : Int)) = true
      · rw [if_pos hl]; rfl
      · rw [if_neg hl, atKey_of_not_has (by simpa using hl)]; rfl,
     ⟨bw, (hg3.block b (by omega) (by simp)).trans hr2.row⟩, (hg3.block b' (lt_of_block p2) (by simp)).trans p2, (hg3.block bw' (lt_of_block q2) (by simp)).trans q2,
     hB2.grown hg3 hsz2 (fun k hk => by cases hk)⟩
  replace hB2 := Lib.hid hB2
  have nb : bm' ≠ bm := by omega
  clear hg3 hs3 hrg p2 q2 hD2 hr2 e2 hD
  go_loopw [5] (fun _ wr => CloneRel n m L w b b' bw' bm bm' w2.heap.size D wr) (fun _ wr => wr.rangeLeft bm w2.heap.size)
  case atStart => exact start
  case round =>
    obtain ⟨left, cnt, k, D2, hrg, hown, hk, hat, a1, a2, a3, hB⟩ := hrel
    have hleft := hrg.left_eq
    replace hleft := Lib.hid hleft
    replace hat := Lib.hid hat
    go_wp2_with (first
      | (at_next; refine wpList_next_ranges_ii _ rfl _ rfl 3 3 .i64 .i64 law3 Tryd.underlying3 Tryd.underlying3 bm w2.heap.size m _ _ _ rfl hrg ?_ ?_))
    · intro hc0 hl0
      replace hl0 := Lib.hid hl0
      have hlo2 := lt_of_block a2
      have hne : bm' ≠ b' := by
        intro e
        obtain ⟨es, clock, hb, _⟩ := hown
        rw [e, a2] at hb; cases hb
      have hne2 : bm' ≠ bw' := by
        intro e
        obtain ⟨es, clock, hb, _⟩ := hown
        rw [e, a3] at hb; cases hb
      have hne3 : b' ≠ bw' := by
        intro e
        have h := a2
        rw [e, a3] at h; simp at h
      obtain ⟨bwx, a1⟩ := a1
      have c3 : wr.cell? ⟨b, 3, none⟩ = some (.int .i64 (tk L n)) := by rw [cell_of_row _ _ _ _ _ _ a1]; rfl
      have c3' : wr.cell? ⟨b', 3, none⟩ = some (.int .i64 (tk (fun _ => 0) n)) := by rw [cell_of_row _ _ _ _ _ _ a2]; rfl
      have f3 : wr.frozen? ⟨b', 3, none⟩ = false := frozen_of_row _ _ _ _ _ a2
      have fin : CloneSays n m L w (.returned (.pointer (some ⟨b', 0, none⟩))) (wr.setCell ⟨b', 3, none⟩ (.int .i64 (tk L n))) := by
        refine ⟨b', bw', bm', hb', hbw', hbm', rfl, ⟨hlo, hn, hr.off, hr.most, ?_, ?_, D2, (ownsMap_at (hown.mono (by omega)) (heap_setCell_other _ _ _ _ hne)), fun i hi => ?_⟩, hB.setCell hb' _⟩
        · rw [heap_setCell_same _ _ _ _ _ _ a2]; rfl
        · rw [heap_setCell_other _ _ _ _ (fun e => hne3 e.symm)]; exact a3
        · rw [hat.out i hi, if_neg (by rw [hl0.out]; decide)]; exact hM.out i hi
      replace fin := Lib.hid fin
      go_wp2_with fail
      go_ret
      exact fin.out
    · intro x c w4 cnt4 hwx hwc hlx hax hrg4 hlt4 hg4 hs4 hen
      have c2 : w4.cell? ⟨b', 2, none⟩ = some (.map (some bm')) := by
        rw [cell_of_row _ _ _ _ _ _ ((hg4.block b' (lt_of_block a2) (by simp; omega)).trans a2)]; rfl
      have hown4 : w4.ownsMap Tryd.prog 3 (plainElem Tryd.prog 3) bm' k D2 := ownsMap_at hown (hg4.block bm' hown.lt (by simp; omega))
      have hk' : k < maxLen := by unfold maxLen; omega
      have hkey := keyOf_int_mk Tryd.underlying3 hwx
      go_wp2_with (first
        | (at_mapUpdate; refine wpList_mapUpdate_own _ rfl _ _ _ 45 rfl 3 3 law3 Tryd.underlying45 _ bm' k D2 rfl hown4 hk' _ _ _ rfl rfl hkey (.lit (.int .i64 c)) [] (plainElem_int Tryd.underlying3 hwc) ?_; intro w5 hown5 hg5))
      go_roundw
      case rel =>
        have h := clone_step hrg4 hlt4 hown hown5 hg4 hg5 hk hat.out hax a1 a2 a3 hB (by omega) (by omega) (by omega) (by omega) (by omega) (by omega) (by omega)
        (repeat apply Exists.intro); exact ⟨h, rfl⟩
      case measure =>
        have h5 := (hrg4.kept hg5 (by simp; omega) (by simp; omega)).left_eq
        have h6 := hleft.out
        omega

end Go.Proofs.YtccaajbkondkaaaDoor
