/-
  The reference of layer 12: what each method of its row does. 'RefAt w c cl n L': at block c of w lies a row of n places, place i held L i times.
-/
import Derived.Test.YtccaajbkondkaaaDoorBits2
namespace Go.Proofs.YtccaajbkondkaaaDoor
open Go.RowKit Go.Maps

def intCells (L : Nat → Nat) (n : Nat) : Array Value := ((List.range n).map fun j => Value.int .i64 (L j)).toArray
theorem intCells_get (L : Nat → Nat) {n j : Nat} (h : j < n) : (intCells L n)[j]? = some (.int .i64 (L j)) := by simp [intCells, h]

structure RefAt (w : World) (c cl n : Nat) (L : Nat → Nat) : Prop where
  lo : 1 ≤ n
  hi : n ≤ 65536
  off : ∀ i, n ≤ i → L i = 0
  most : ∀ i, L i ≤ 2147483647
  row : w.heap[c]? = some (.cells #[.slice (some ⟨cl, 0, none⟩) n n] 97 (0, 0))
  ints : w.heap[cl]? = some (.cells (intCells L n) 3 (0, 0))

theorem RefAt.stay {w w' : World} {c cl n : Nat} {L : Nat → Nat} (h : RefAt w c cl n L) {S : Nat → Prop} (u : Upd S w w') (h1 : ¬ S c) (h2 : ¬ S cl) : RefAt w' c cl n L :=
  ⟨h.lo, h.hi, h.off, h.most, u.at h.row h1, u.at h.ints h2⟩
theorem RefAt.c0 {w : World} {c cl n : Nat} {L : Nat → Nat} (h : RefAt w c cl n L) : w.cell? ⟨c, 0, none⟩ = some (.slice (some ⟨cl, 0, none⟩) n n) := by
  rw [cell_of_row _ _ _ _ _ _ h.row]; rfl
theorem RefAt.cl {w : World} {c cl n : Nat} {L : Nat → Nat} (h : RefAt w c cl n L) {j : Nat} (hj : j < n) : w.cell? ⟨cl, j, none⟩ = some (.int .i64 (L j)) := by
  rw [cell_of_row _ _ _ _ _ _ h.ints, intCells_get L hj]
theorem RefAt.ne {w : World} {c cl n : Nat} {L : Nat → Nat} (h : RefAt w c cl n L) : c ≠ cl := by
  intro e; have h1 := h.row; rw [e, h.ints] at h1; simp at h1

def Two (c cl : Nat) : Nat → Prop := fun k => k = c ∨ k = cl

theorem intCells_up (L : Nat → Nat) {n i v : Nat} : (intCells L n).setIfInBounds i (.int .i64 (v : Int)) = intCells (up L i v) n := by
  apply Array.ext
  · simp [intCells]
  · intro k h1 h2
    have hk : k < n := by simpa [intCells] using h2
    rw [Array.getElem_setIfInBounds]
    · by_cases e : i = k
      · subst e; simp [intCells, up_same]
      · simp [intCells, e, up_other L v (fun h => e h.symm)]
    · simpa [intCells] using hk

theorem RefAt.set {w : World} {c cl n : Nat} {L : Nat → Nat} (h : RefAt w c cl n L) {i v : Nat} (hi : i < n) (hv : v ≤ 2147483647) : RefAt (w.setCell ⟨cl, i, none⟩ (.int .i64 (v : Int))) c cl n (up L i v) := by
  refine ⟨h.lo, h.hi, fun k hk => ?_, fun k => ?_, ?_, ?_⟩
  · rw [up_other _ _ (by omega)]; exact h.off k hk
  · by_cases e : k = i
    · subst e; rw [up_same]; omega
    · rw [up_other _ _ e]; exact h.most k
  · rw [heap_setCell_other _ _ _ _ h.ne]; exact h.row
  · rw [heap_setCell_same _ _ _ _ _ _ h.ints, intCells_up L]

theorem RefAt.drewN {w : World} {c cl n : Nat} {L : Nat → Nat} (h : RefAt w c cl n L) (k : Nat) : RefAt (w.drewN k) c cl n L := ⟨h.lo, h.hi, h.off, h.most, h.row, h.ints⟩
theorem RefAt.drew {w : World} {c cl n : Nat} {L : Nat → Nat} (h : RefAt w c cl n L) : RefAt w.drew c cl n L := ⟨h.lo, h.hi, h.off, h.most, h.row, h.ints⟩

theorem info3 : (Tryd.prog.info? 3).map (fun i => (i.zero, i.size, i.bytes)) = some (some (.int .i64 0), 1, 8) := by kernel_rfl
theorem ints_zero (n : Nat) : madeCells #[.int .i64 0] n = intCells (fun _ => 0) n := by
  apply Array.ext
  · simp [madeCells, intCells]
  · intro i h1 h2
    simp [madeCells, intCells, Nat.mod_one]

theorem rnew_bad (n : Int) (w : World) (h : n < 1 ∨ 65536 < n) :
    Calls Tryd.prog 15 #[.int .i64 n] w fun e w' => e = .returned (.tuple #[.pointer .none, .int .i64 1]) ∧ w = w' := by
  rcases h with h | h
  · go_enter Tryd.func15, Tryd.ntmps15
    go_wp2
    go_ret2
    exact ⟨rfl, rfl⟩
  · have h' : ¬ n < 1 := by omega
    go_enter Tryd.func15, Tryd.ntmps15
    go_wp2
    go_ret2
    exact ⟨rfl, rfl⟩

def RNewSays (n : Nat) (w : World) (e : Ending) (w' : World) : Prop :=
  ∃ c cl, w.heap.size ≤ c ∧ w.heap.size ≤ cl ∧ e = .returned (.tuple #[.pointer (some ⟨c, 0, none⟩), .int .i64 0]) ∧ RefAt w' c cl n (fun _ => 0) ∧ Below w.heap.size w w'

set_option maxRecDepth 100000 in
theorem rnew_ok (n : Nat) (w : World) (h1 : 1 ≤ n) (h2 : n ≤ 65536) : Calls Tryd.prog 15 #[.int .i64 n] w (RNewSays n w) := by
  have hmk := run_make_row' (P := Tryd.prog) 58 3 (.int .i64 0) 8 Tryd.underlying58 info3 rfl .i64 .i64 n (by omega) (by omega)
  have hr : RefAt ((w.alloc (.cells (madeCells #[.int .i64 0] n) 3)).alloc (.cells #[.slice (some ⟨w.heap.size, 0, none⟩) n n] 97)) (w.heap.size + 1) w.heap.size n (fun _ => 0) := by
    refine ⟨h1, h2, fun _ _ => rfl, fun _ => by omega, ?_, ?_⟩
    · exact heap_alloc2_new _ _ _
    · rw [heap_alloc_old (h := by simp), heap_alloc_new, ints_zero]
  replace hr := Lib.hid hr
  go_enter Tryd.func15, Tryd.ntmps15
  go_wp2
  refine bodyPost_ret (v := .tuple #[.pointer (some ⟨w.heap.size + 1, 0, none⟩), .int .i64 0]) ?_ rfl ?_
  · simp [results, Tryd.results15, go_sem]
  · exact ⟨w.heap.size + 1, w.heap.size, by omega, by omega, rfl, hr.out, ((Below.refl _ _).alloc (Nat.le_refl _) _).alloc (by simp) _⟩

def RHoldSays (c cl n : Nat) (L : Nat → Nat) (i : Int) (w : World) (e : Ending) (w' : World) : Prop :=
  e = .returned (.int .i64 (holdRes n L i)) ∧ RefAt w' c cl n (holdL n L i) ∧ Upd (Two c cl) w w'

set_option maxRecDepth 100000 in
theorem rhold_any {w : World} {c cl n : Nat} {L : Nat → Nat} (hr : RefAt w c cl n L) (i : Int) :
    Calls Tryd.prog 19 #[.pointer (some ⟨c, 0, none⟩), .int .i64 i] w (RHoldSays c cl n L i w) := by
  have hn := hr.hi
  have c0 := hr.c0
  by_cases hi : i < 0 ∨ (n : Int) ≤ i
  · have fin : RHoldSays c cl n L i w (.returned (.int .i64 1)) w := ⟨by unfold holdRes; rw [if_pos hi], by unfold holdL; rw [if_pos hi]; exact hr, Upd.refl _ _⟩
    by_cases h0 : i < 0
    · clear hi
      go_enter Tryd.func19, Tryd.ntmps19
      go_wp2
      go_ret
      exact fin
    · have h1 : (n : Int) ≤ i := by omega
      clear hi
      go_enter Tryd.func19, Tryd.ntmps19
      go_wp2
      go_ret
      exact fin
  · obtain ⟨k, rfl⟩ : ∃ k : Nat, i = k := ⟨i.toNat, by omega⟩
    have hk : k < n := by omega
    have ck := hr.cl hk
    have hmo := hr.most k
    have f1 : w.frozen? ⟨cl, k, none⟩ = false := frozen_of_row _ _ _ _ _ hr.ints
    by_cases h5 : L k = 2147483647
    · have fin : RHoldSays c cl n L k w (.returned (.int .i64 5)) w := ⟨by unfold holdRes; rw [if_neg hi, if_pos (by simpa using h5)], by unfold holdL; rw [if_neg hi, if_pos (by simpa using h5)]; exact hr, Upd.refl _ _⟩
      clear hi
      rw [h5] at ck
      clear h5
      go_enter Tryd.func19, Tryd.ntmps19
      go_wp2
      go_ret
      exact fin
    · have q : ((L k : Int) == 2147483647) = false := by simp; omega
      have fin : ∀ w', RefAt w' c cl n (up L k (L k + 1)) → Upd (Two c cl) w w' → RHoldSays c cl n L k w (.returned (.int .i64 0)) w' := fun w' a b =>
        ⟨by unfold holdRes; rw [if_neg hi, if_neg (by simpa using h5)], by unfold holdL; rw [if_neg hi, if_neg (by simpa using h5)]; simpa only [Int.toNat_natCast] using a, b⟩
      replace fin := Lib.hid fin
      have hset := Lib.hid (hr.set (v := L k + 1) hk (by omega))
      clear hi h5
      go_enter Tryd.func19, Tryd.ntmps19
      go_wp2_with fail
      go_region
      go_wp2
      go_ret
      refine fin.out _ ?_ ?_
      · have h := hset.out
        simp only [Int.natCast_add, Int.natCast_one] at h
        exact h.drew
      · exact ((Upd.refl _ _).setCell _ _ (fun _ => .inr rfl)).drew

def RDropSays (c cl n : Nat) (L : Nat → Nat) (i : Int) (w : World) (e : Ending) (w' : World) : Prop :=
  e = .returned (.tuple #[.bool (dropFree n L i), .int .i64 (dropRes n L i)]) ∧ RefAt w' c cl n (dropL n L i) ∧ Upd (Two c cl) w w'

set_option maxRecDepth 100000 in
theorem rdrop_any {w : World} {c cl n : Nat} {L : Nat → Nat} (hr : RefAt w c cl n L) (i : Int) :
    Calls Tryd.prog 21 #[.pointer (some ⟨c, 0, none⟩), .int .i64 i] w (RDropSays c cl n L i w) := by
  have hn := hr.hi
  have c0 := hr.c0
  by_cases hi : i < 0 ∨ (n : Int) ≤ i
  · have fin : RDropSays c cl n L i w (.returned (.tuple #[.bool false, .int .i64 1])) w := ⟨by unfold dropFree dropRes; rw [if_pos hi, if_pos hi], by unfold dropL; rw [if_pos hi]; exact hr, Upd.refl _ _⟩
    by_cases h0 : i < 0
    · clear hi
      go_enter Tryd.func21, Tryd.ntmps21
      go_wp2
      go_ret2
      exact fin
    · have h1 : (n : Int) ≤ i := by omega
      clear hi
      go_enter Tryd.func21, Tryd.ntmps21
      go_wp2
      go_ret2
      exact fin
  · obtain ⟨k, rfl⟩ : ∃ k : Nat, i = k := ⟨i.toNat, by omega⟩
    have hk : k < n := by omega
    have ck := hr.cl hk
    have hmo := hr.most k
    have f1 : w.frozen? ⟨cl, k, none⟩ = false := frozen_of_row _ _ _ _ _ hr.ints
    have e1 : dropFree n L k = decide (L k = 1) := by unfold dropFree; rw [if_neg hi, Int.toNat_natCast]
    have e2 : dropRes n L k = if L k = 0 then 7 else 0 := by unfold dropRes; rw [if_neg hi, Int.toNat_natCast]
    have e3 : dropL n L k = up L k (L k - 1) := by unfold dropL; rw [if_neg hi, Int.toNat_natCast]
    have fin : ∀ x y w', x = dropFree n L k → y = dropRes n L k → RefAt w' c cl n (dropL n L k) → Upd (Two c cl) w w' → RDropSays c cl n L k w (.returned (.tuple #[.bool x, .int .i64 y])) w' := by
      rintro x y w' rfl rfl h2 h3; exact ⟨rfl, h2, h3⟩
    by_cases h5 : L k = 0
    · have fin := Lib.hid (fin false 7 w (by simp [e1, h5]) (by simp [e2, h5]) (by rw [e3, show L k - 1 = L k by omega, up_self]; exact hr) (Upd.refl _ _))
      clear hi e1 e2 e3
      rw [h5, Int.natCast_zero] at ck
      clear h5
      go_enter Tryd.func21, Tryd.ntmps21
      go_wp2
      go_ret2
      exact fin.out
    · have q : ((L k : Int) == 0) = false := by simp; omega
      have hne := hr.ne
      have hne' := hne.symm
      have fin := Lib.hid fun w' a b => fin (decide (L k = 1)) 0 w' e1.symm (by simp [e2, h5]) (by rw [e3]; exact a) b
      have hset := hr.set (v := L k - 1) hk (by omega)
      replace hset := Lib.hid hset
      have hpos : 1 ≤ L k := by omega
      have ek := Lib.hid (show ((L k - 1 : Nat) : Int) = (L k : Int) - 1 by omega)
      have ed := Lib.hid (show decide (L k = 1) = (((L k : Int) - 1) == 0) by rw [Bool.eq_iff_iff]; simp; omega)
      clear hi h5 e1 e2 e3
      go_enter Tryd.func21, Tryd.ntmps21
      go_wp2_with fail
      go_region
      go_wp2
      go_ret2
      have h := hset.out
      rw [ek.out] at h
      have f := fin.out _ h.drew ((Upd.refl _ _).setCell _ _ (fun _ => .inr rfl)).drew
      rw [ed.out] at f
      exact f

set_option maxRecDepth 100000 in
theorem rtimes_any {w : World} {c cl n : Nat} {L : Nat → Nat} (hr : RefAt w c cl n L) (i : Int) :
    Calls Tryd.prog 23 #[.pointer (some ⟨c, 0, none⟩), .int .i64 i] w fun e w' => e = .returned (.int .i64 (timesI n L i)) ∧ w = w' := by
  have hn := hr.hi
  have c0 := hr.c0
  unfold timesI
  by_cases hi : i < 0 ∨ (n : Int) ≤ i
  · rw [if_pos hi]
    by_cases h0 : i < 0
    · clear hi
      go_enter Tryd.func23, Tryd.ntmps23
      go_wp2
      go_ret
      exact ⟨rfl, rfl⟩
    · have h1 : (n : Int) ≤ i := by omega
      clear hi
      go_enter Tryd.func23, Tryd.ntmps23
      go_wp2
      go_ret
      exact ⟨rfl, rfl⟩
  · rw [if_neg hi]
    obtain ⟨k, rfl⟩ : ∃ k : Nat, i = k := ⟨i.toNat, by omega⟩
    have hk : k < n := by omega
    have ck := hr.cl hk
    clear hi
    go_enter Tryd.func23, Tryd.ntmps23
    go_wp2
    go_ret
    exact ⟨rfl, rfl⟩

set_option maxRecDepth 100000 in
theorem rfree_any {w : World} {c cl n : Nat} {L : Nat → Nat} (hr : RefAt w c cl n L) (f : Int) :
    Calls Tryd.prog 17 #[.pointer (some ⟨c, 0, none⟩), .int .i64 f] w (FreeSays L n f.toNat w) := by
  have hn := hr.hi
  have c0 := hr.c0
  have ck : ∀ j, j < n → w.cell? ⟨cl, j, none⟩ = some (.int .i64 (L j)) := fun j hj => hr.cl hj
  replace ck := Lib.hid ck
  by_cases hf : f < 0
  · rw [show f.toNat = 0 by omega]
    go_enter Tryd.func17, Tryd.ntmps17
    go_wp2_with fail
    go_loop [6] (fun i => ∃ k : Nat, 0 ≤ k ∧ Held L 0 k ∧ i = .int .i64 k) (fun i => n - (intOf i).toNat)
    case atStart => exact ⟨0, Nat.le_refl _, fun i a b => by omega, rfl⟩
    case round =>
      obtain ⟨k, hk, hh, rfl⟩ := hrel
      by_cases hlt : k < n
      · have c := ck.out k hlt
        by_cases hz : L k = 0
        · have fin := Lib.hid (show FreeSays L n 0 w (.returned (.tuple #[.int .i64 (k : Int), .bool true])) w from ⟨some k, ⟨hk, hlt, hz, hh⟩, rfl, rfl⟩)
          rw [hz, Int.natCast_zero] at c
          replace hh := Lib.hid hh
          clear hz
          go_wp2_with fail
          go_ret2
          exact fin.out
        · have q : ((L k : Int) == 0) = false := by simp; omega
          have nx := Lib.hid (show Held L 0 (k + 1) from fun i a b => by
            by_cases e : i = k
            · rw [e]; exact hz
            · exact hh i a (by omega))
          replace hh := Lib.hid hh
          clear hz
          go_wp2_with fail
          go_round
          case rel => exact ⟨k + 1, by omega, nx.out, by go_num⟩
          case measure => simp [intOf]; omega
      · have fin := Lib.hid (show FreeSays L n 0 w (.returned (.tuple #[.int .i64 0, .bool false])) w from ⟨.none, fun i a b => hh i a (by omega), rfl, rfl⟩)
        replace hh := Lib.hid hh
        go_wp2_with fail
        go_ret2
        exact fin.out
  · obtain ⟨g, rfl⟩ : ∃ g : Nat, f = g := ⟨f.toNat, by omega⟩
    rw [Int.toNat_natCast]
    clear hf
    go_enter Tryd.func17, Tryd.ntmps17
    go_wp2_with fail
    go_loop [6] (fun i => ∃ k : Nat, g ≤ k ∧ Held L g k ∧ i = .int .i64 k) (fun i => n - (intOf i).toNat)
    case atStart => exact ⟨g, Nat.le_refl _, fun i a b => by omega, rfl⟩
    case round =>
      obtain ⟨k, hk, hh, rfl⟩ := hrel
      by_cases hlt : k < n
      · have c := ck.out k hlt
        by_cases hz : L k = 0
        · have fin := Lib.hid (show FreeSays L n g w (.returned (.tuple #[.int .i64 (k : Int), .bool true])) w from ⟨some k, ⟨hk, hlt, hz, hh⟩, rfl, rfl⟩)
          rw [hz, Int.natCast_zero] at c
          replace hh := Lib.hid hh
          clear hz
          go_wp2_with fail
          go_ret2
          exact fin.out
        · have q : ((L k : Int) == 0) = false := by simp; omega
          have nx := Lib.hid (show Held L g (k + 1) from fun i a b => by
            by_cases e : i = k
            · rw [e]; exact hz
            · exact hh i a (by omega))
          replace hh := Lib.hid hh
          clear hz
          go_wp2_with fail
          go_round
          case rel => exact ⟨k + 1, by omega, nx.out, by go_num⟩
          case measure => simp [intOf]; omega
      · have fin := Lib.hid (show FreeSays L n g w (.returned (.tuple #[.int .i64 0, .bool false])) w from ⟨.none, fun i a b => hh i a (by omega), rfl, rfl⟩)
        replace hh := Lib.hid hh
        go_wp2_with fail
        go_ret2
        exact fin.out

theorem tk_succ (L : Nat → Nat) (k : Nat) : tk L (k + 1) = tk L k + if 0 < L k then 1 else 0 := rfl

set_option maxRecDepth 100000 in
theorem rtaken_any {w : World} {c cl n : Nat} {L : Nat → Nat} (hr : RefAt w c cl n L) :
    Calls Tryd.prog 25 #[.pointer (some ⟨c, 0, none⟩)] w fun e w' => e = .returned (.int .i64 (tk L n)) ∧ w = w' := by
  have hn := hr.hi
  have c0 := hr.c0
  have ck : ∀ j, j < n → w.cell? ⟨cl, j, none⟩ = some (.int .i64 (L j)) := fun j hj => hr.cl hj
  replace ck := Lib.hid ck
  go_enter Tryd.func25, Tryd.ntmps25
  go_wp2_with fail
  go_loop [3, 4] (fun t i => ∃ k : Nat, k ≤ n ∧ t = .int .i64 (tk L k) ∧ i = .int .i64 k) (fun _ i => n - (intOf i).toNat)
  case atStart => exact ⟨0, Nat.zero_le _, rfl, rfl⟩
  case round =>
    obtain ⟨k, hk, rfl, rfl⟩ := hrel
    have hb := tk_le L k
    by_cases hlt : k < n
    · have c := ck.out k hlt
      have es := tk_succ L k
      by_cases hz : 0 < L k
      · rw [if_pos hz] at es
        replace es := Lib.hid es
        go_wp2_with fail
        go_round
        case rel => exact ⟨k + 1, by omega, by rw [es.out]; go_num, by go_num⟩
        case measure => simp [intOf]; omega
      · rw [if_neg hz, Nat.add_zero] at es
        replace es := Lib.hid es
        go_wp2_with fail
        go_round
        case rel => exact ⟨k + 1, by omega, by rw [es.out]; rfl, by go_num⟩
        case measure => simp [intOf]; omega
    · obtain rfl : k = n := by omega
      go_wp2_with fail
      go_ret
      exact ⟨rfl, rfl⟩

end Go.Proofs.YtccaajbkondkaaaDoor
