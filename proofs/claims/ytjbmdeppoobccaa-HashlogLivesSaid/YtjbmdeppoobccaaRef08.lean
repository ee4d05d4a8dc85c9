/-
  The reference of layer 8: Has. Conditions: the list lies in blocks of its own; texts not too long.
-/
import Derived.Test.YtjbmdeppoobccaaHashAlive
import Derived.Test.YtjbmdeppoobccaaRefCopy
namespace Go.Proofs.Ytjbmdeppoobccaa
open Go.RowKit Go.Maps

/-- The reference's log at block r: texts T, in blocks of G. -/
structure RefLog (w : World) (G : Nat → Prop) (r : Nat) (v : Value) (T : List (List Nat)) : Prop where
  row : w.heap[r]? = some (.cells #[v] 64 (0, 0))
  list : RowT w G v T
  inG : G r
theorem RefLog.stay {w w' : World} {G : Nat → Prop} {r : Nat} {v : Value} {T : List (List Nat)} (h : RefLog w G r v T) (hs : ∀ k, G k → k < w.heap.size → w'.heap[k]? = w.heap[k]?) : RefLog w' G r v T :=
  ⟨(hs r h.inG (lt_of_block h.row)).trans h.row, h.list.stay hs, h.inG⟩
theorem RefLog.below {w w' : World} {G : Nat → Prop} {r : Nat} {v : Value} {T : List (List Nat)} (h : RefLog w G r v T) (hB : Below w.heap.size w w') : RefLog w' G r v T := h.stay fun k _ hk => hB.block k hk
/-- What stays while Has compares. -/
structure CmpSt (w : World) (r : Nat) (v : Value) (ob oe : Nat) (vt vu : Value) (t u : List Nat) : Prop where
  c : w.cell? ⟨r, 0, none⟩ = some v
  e : w.cell? ⟨ob, oe, none⟩ = some vt
  t : TextAt w vt t
  u : TextAt w vu u

set_option maxHeartbeats 4000000 in
set_option maxRecDepth 100000 in
theorem r8has_any {w : World} {G : Nat → Prop} {r : Nat} {v : Value} {T : List (List Nat)} (h : RefLog w G r v T) (vu : Value) (u : List Nat) (hu : TextAt w vu u) (hT : T.length < 1000000000) :
    Calls Try.prog 40 #[.pointer (some ⟨r, 0, none⟩), vu] w fun e w' => e = .returned (.bool (decide (u ∈ T))) ∧ Below w.heap.size w w' := by
  obtain ⟨au, mu, cu, rfl⟩ : ∃ a m c, vu = .slice a m c := by obtain ⟨a, c, e, _⟩ := hu.ex; exact ⟨a, _, c, e⟩
  obtain ⟨ao, cap, rfl, hcap, hno, tx⟩ := h.list.texts
  have c0 : w.cell? ⟨r, 0, none⟩ = some (.slice ao T.length cap) := (cell_of_row _ _ 0 _ _ _ h.row).trans rfl
  obtain ⟨n, en⟩ : ∃ n, n = T.length := ⟨_, rfl⟩
  rw [← en] at hcap c0 hT
  obtain ⟨B, eB⟩ : ∃ B, B = decide (u ∈ T) := ⟨_, rfl⟩
  rw [← eB]
  replace h := Lib.hid h
  replace hu := Lib.hid hu
  replace tx := Lib.hid tx
  replace en := Lib.hid en
  replace c0 := Lib.hid c0
  replace hcap := Lib.hid hcap
  replace hno := Lib.hid hno
  replace eB := Lib.hid eB
  go_enter Try.func40, Try.ntmps40
  go_wp2_with fail
  go_loopw [5] (fun i wr => ∃ k : Nat, k ≤ n ∧ i = .int .i64 k ∧ memTo T u k ∧ Below w.heap.size w wr) (fun i _ => n - (intOf i).toNat)
  case atStart => exact ⟨0, Nat.zero_le _, rfl, fun i hi => by omega, Below.refl _ _⟩
  case round =>
    obtain ⟨k, hk, rfl, hm, hB⟩ := hrel
    have cr := (hB.cell (block_lt_of_cell c0.out)).trans c0.out
    by_cases hlt : k < n
    · obtain ⟨ob, oo, rfl, ai, ci, hc1, hc2, hc3, hc4⟩ := tx.out k (by rw [← en.out]; exact hlt)
      have tk : TextAt w (.slice ai (T.getD k []).length ci) (T.getD k []) := ⟨ai, ci, rfl, hc2, hc4, hc3⟩
      have hmem : T.getD k [] ∈ T := by
        have : k < T.length := by rw [← en.out]; exact hlt
        simp [List.getD, this]
      obtain ⟨t, et⟩ : ∃ t, t = T.getD k [] := ⟨_, rfl⟩
      rw [← et] at tk hc1 hmem
      have sd := str_dec tk.small hu.out.small
      have sl := str_lst tk.small hu.out.small
      have iK : (k : Int) < (n : Int) := by omega
      have St : CmpSt wr.drew r (.slice (some ⟨ob, oo, none⟩) n cap) ob (oo + k) (.slice ai t.length ci) (.slice au mu cu) t u := ⟨cr, (hB.cell (block_lt_of_cell hc1)).trans hc1, (tk.below hB).drew, (hu.out.below hB).drew⟩
      have hBd : Below w.heap.size w wr.drew := hB.drew
      have g0 : ∀ w', CmpSt w' r (.slice (some ⟨ob, oo, none⟩) n cap) ob (oo + k) (.slice ai t.length ci) (.slice au mu cu) t u → w'.cell? ⟨r, 0, none⟩ = some (.slice (some ⟨ob, oo, none⟩) n cap) := fun w' h => h.c
      have g1 : ∀ w', CmpSt w' r (.slice (some ⟨ob, oo, none⟩) n cap) ob (oo + k) (.slice ai t.length ci) (.slice au mu cu) t u → w'.cell? ⟨ob, oo + k, none⟩ = some (.slice ai t.length ci) := fun w' h => h.e
      have g2 : ∀ w', CmpSt w' r (.slice (some ⟨ob, oo, none⟩) n cap) ob (oo + k) (.slice ai t.length ci) (.slice au mu cu) t u → TextAt w' (.slice ai t.length ci) t := fun w' h => h.t
      have g3 : ∀ w', CmpSt w' r (.slice (some ⟨ob, oo, none⟩) n cap) ob (oo + k) (.slice ai t.length ci) (.slice au mu cu) t u → TextAt w' (.slice au mu cu) u := fun w' h => h.u
      cases hq : (t == u) with
      | true =>
        rw [hq] at sd sl
        have e1 := of_decide_eq_true sd
        have hs : u ∈ T := by rw [← eq_of_beq hq]; exact hmem
        have dT : true = B := by rw [eB.out]; exact (decide_eq_true hs).symm
        clear tk hc1 hc2 hc3 hc4 hmem
        replace hm := Lib.hid hm
        replace hB := Lib.hid hB
        replace et := Lib.hid et
        replace hq := Lib.hid hq
        replace hs := Lib.hid hs
        replace St := Lib.hid St
        replace hBd := Lib.hid hBd
        replace g2 := Lib.hid g2
        replace g3 := Lib.hid g3
        replace dT := Lib.hid dT
        go_wp2_with fail
        refine wp_region_held_drew (S := (fun w' => CmpSt w' r (.slice (some ⟨ob, oo, none⟩) n cap) ob (oo + k) (.slice ai t.length ci) (.slice au mu cu) t u)) (by kernel_rfl) (St.out) (fun hHeld => ?_)
        refine held_take (i := 0) (v := ?_) rfl (by kernel_rfl) (by kernel_rfl) (by kernel_rfl) (fun _ _ _ h => h) (Or.inl ⟨by rfl, ?_⟩) (by assumption) ?_
        rotate_left
        · intro w hSw; (try dsimp only at hSw); go_simp; try with_reducible rfl
        try simp only [Act.put, List.setIfInBounds_toArray, List.set_cons_zero, List.set_cons_succ]
        refine held_take (i := 1) (v := ?_) rfl (by kernel_rfl) (by kernel_rfl) (by kernel_rfl) (fun _ _ _ h => h) (Or.inl ⟨by rfl, ?_⟩) (by assumption) ?_
        rotate_left
        · intro w hSw; (try dsimp only at hSw); go_simp; try with_reducible rfl
        try simp only [Act.put, List.setIfInBounds_toArray, List.set_cons_zero, List.set_cons_succ]
        refine held_take (i := 2) (v := ?_) rfl (by kernel_rfl) (by kernel_rfl) (by kernel_rfl) (fun _ _ _ h => h) (Or.inl ⟨by rfl, ?_⟩) (by assumption) ?_
        rotate_left
        · intro w hSw; (try dsimp only at hSw); go_simp; try with_reducible rfl
        try simp only [Act.put, List.setIfInBounds_toArray, List.set_cons_zero, List.set_cons_succ]
        refine held_take (i := 3) (v := ?_) rfl (by kernel_rfl) (by kernel_rfl) (by kernel_rfl) (fun _ _ _ h => h) (Or.inl ⟨by rfl, ?_⟩) (by assumption) ?_
        rotate_left
        · intro w hSw; (try dsimp only at hSw); go_simp; try with_reducible rfl
        try simp only [Act.put, List.setIfInBounds_toArray, List.set_cons_zero, List.set_cons_succ]
        refine held_take (i := 4) (v := ?_) rfl (by kernel_rfl) (by kernel_rfl) (by kernel_rfl) (fun _ _ _ h => h) (Or.inl ⟨by rfl, ?_⟩) (by assumption) ?_
        rotate_left
        · intro w hSw; (try dsimp only at hSw); go_simp; try with_reducible rfl
        try simp only [Act.put, List.setIfInBounds_toArray, List.set_cons_zero, List.set_cons_succ]
        refine held_take (i := 5) (v := ?_) rfl (by kernel_rfl) (by kernel_rfl) (by kernel_rfl) (fun _ _ _ h => h) (Or.inl ⟨by rfl, ?_⟩) (by assumption) ?_
        rotate_left
        · intro w hSw; (try dsimp only at hSw); go_simp; try with_reducible rfl
        try simp only [Act.put, List.setIfInBounds_toArray, List.set_cons_zero, List.set_cons_succ]
        refine held_take (i := 6) (v := ?_) rfl (by kernel_rfl) (by kernel_rfl) (by kernel_rfl) (fun _ _ _ h => h) (Or.inl ⟨by rfl, ?_⟩) (by assumption) ?_
        rotate_left
        · intro w hSw; (try dsimp only at hSw); go_simp; try with_reducible rfl
        try simp only [Act.put, List.setIfInBounds_toArray, List.set_cons_zero, List.set_cons_succ]
        refine held_take (i := 7) (v := _) rfl (by kernel_rfl) (by kernel_rfl) (by kernel_rfl) (fun _ _ _ h => h) (yieldsIf_str (by rfl) rfl rfl (v := .slice ai t.length ci) g2.out) (by assumption) ?_
        try simp only [Act.put, List.setIfInBounds_toArray, List.set_cons_zero, List.set_cons_succ]
        refine held_take (i := 8) (v := ?_) rfl (by kernel_rfl) (by kernel_rfl) (by kernel_rfl) (fun _ _ _ h => h) (Or.inl ⟨by rfl, ?_⟩) (by assumption) ?_
        rotate_left
        · intro w hSw; (try dsimp only at hSw); go_simp; try with_reducible rfl
        try simp only [Act.put, List.setIfInBounds_toArray, List.set_cons_zero, List.set_cons_succ]
        refine held_take (i := 9) (v := _) rfl (by kernel_rfl) (by kernel_rfl) (by kernel_rfl) (fun _ _ _ h => h) (yieldsIf_str (by rfl) rfl rfl (v := .slice au mu cu) g3.out) (by assumption) ?_
        try simp only [Act.put, List.setIfInBounds_toArray, List.set_cons_zero, List.set_cons_succ]
        refine held_take (i := 10) (v := ?_) rfl (by kernel_rfl) (by kernel_rfl) (by kernel_rfl) (fun _ _ _ h => h) (Or.inl ⟨by rfl, ?_⟩) (by assumption) ?_
        rotate_left
        · intro w hSw; (try dsimp only at hSw); go_simp; try with_reducible rfl
        try simp only [Act.put, List.setIfInBounds_toArray, List.set_cons_zero, List.set_cons_succ]
        refine wpAnyH_done (by kernel_rfl) ?_ _
        clear hHeld
        go_wp2_with fail
        go_ret
        exact ⟨by rw [← dT.out]; rfl, hBd.out⟩
      | false =>
        rw [hq] at sd sl
        have e1 := of_decide_eq_false sd
        have hm2 : memTo T u (k + 1) := fun i hi => by
          by_cases hik : i = k
          · rw [hik, ← et]; exact hq
          · exact hm i (by omega)
        clear tk hc1 hc2 hc3 hc4 hmem
        replace hm := Lib.hid hm
        replace hm2 := Lib.hid hm2
        replace hB := Lib.hid hB
        replace et := Lib.hid et
        replace hq := Lib.hid hq
        replace St := Lib.hid St
        replace hBd := Lib.hid hBd
        replace g2 := Lib.hid g2
        replace g3 := Lib.hid g3
        go_wp2_with fail
        refine wp_region_held_drew (S := (fun w' => CmpSt w' r (.slice (some ⟨ob, oo, none⟩) n cap) ob (oo + k) (.slice ai t.length ci) (.slice au mu cu) t u)) (by kernel_rfl) (St.out) (fun hHeld => ?_)
        refine held_take (i := 0) (v := ?_) rfl (by kernel_rfl) (by kernel_rfl) (by kernel_rfl) (fun _ _ _ h => h) (Or.inl ⟨by rfl, ?_⟩) (by assumption) ?_
        rotate_left
        · intro w hSw; (try dsimp only at hSw); go_simp; try with_reducible rfl
        try simp only [Act.put, List.setIfInBounds_toArray, List.set_cons_zero, List.set_cons_succ]
        refine held_take (i := 1) (v := ?_) rfl (by kernel_rfl) (by kernel_rfl) (by kernel_rfl) (fun _ _ _ h => h) (Or.inl ⟨by rfl, ?_⟩) (by assumption) ?_
        rotate_left
        · intro w hSw; (try dsimp only at hSw); go_simp; try with_reducible rfl
        try simp only [Act.put, List.setIfInBounds_toArray, List.set_cons_zero, List.set_cons_succ]
        refine held_take (i := 2) (v := ?_) rfl (by kernel_rfl) (by kernel_rfl) (by kernel_rfl) (fun _ _ _ h => h) (Or.inl ⟨by rfl, ?_⟩) (by assumption) ?_
        rotate_left
        · intro w hSw; (try dsimp only at hSw); go_simp; try with_reducible rfl
        try simp only [Act.put, List.setIfInBounds_toArray, List.set_cons_zero, List.set_cons_succ]
        refine held_take (i := 3) (v := ?_) rfl (by kernel_rfl) (by kernel_rfl) (by kernel_rfl) (fun _ _ _ h => h) (Or.inl ⟨by rfl, ?_⟩) (by assumption) ?_
        rotate_left
        · intro w hSw; (try dsimp only at hSw); go_simp; try with_reducible rfl
        try simp only [Act.put, List.setIfInBounds_toArray, List.set_cons_zero, List.set_cons_succ]
        refine held_take (i := 4) (v := ?_) rfl (by kernel_rfl) (by kernel_rfl) (by kernel_rfl) (fun _ _ _ h => h) (Or.inl ⟨by rfl, ?_⟩) (by assumption) ?_
        rotate_left
        · intro w hSw; (try dsimp only at hSw); go_simp; try with_reducible rfl
        try simp only [Act.put, List.setIfInBounds_toArray, List.set_cons_zero, List.set_cons_succ]
        refine held_take (i := 5) (v := ?_) rfl (by kernel_rfl) (by kernel_rfl) (by kernel_rfl) (fun _ _ _ h => h) (Or.inl ⟨by rfl, ?_⟩) (by assumption) ?_
        rotate_left
        · intro w hSw; (try dsimp only at hSw); go_simp; try with_reducible rfl
        try simp only [Act.put, List.setIfInBounds_toArray, List.set_cons_zero, List.set_cons_succ]
        refine held_take (i := 6) (v := ?_) rfl (by kernel_rfl) (by kernel_rfl) (by kernel_rfl) (fun _ _ _ h => h) (Or.inl ⟨by rfl, ?_⟩) (by assumption) ?_
        rotate_left
        · intro w hSw; (try dsimp only at hSw); go_simp; try with_reducible rfl
        try simp only [Act.put, List.setIfInBounds_toArray, List.set_cons_zero, List.set_cons_succ]
        refine held_take (i := 7) (v := _) rfl (by kernel_rfl) (by kernel_rfl) (by kernel_rfl) (fun _ _ _ h => h) (yieldsIf_str (by rfl) rfl rfl (v := .slice ai t.length ci) g2.out) (by assumption) ?_
        try simp only [Act.put, List.setIfInBounds_toArray, List.set_cons_zero, List.set_cons_succ]
        refine held_take (i := 8) (v := ?_) rfl (by kernel_rfl) (by kernel_rfl) (by kernel_rfl) (fun _ _ _ h => h) (Or.inl ⟨by rfl, ?_⟩) (by assumption) ?_
        rotate_left
        · intro w hSw; (try dsimp only at hSw); go_simp; try with_reducible rfl
        try simp only [Act.put, List.setIfInBounds_toArray, List.set_cons_zero, List.set_cons_succ]
        refine held_take (i := 9) (v := _) rfl (by kernel_rfl) (by kernel_rfl) (by kernel_rfl) (fun _ _ _ h => h) (yieldsIf_str (by rfl) rfl rfl (v := .slice au mu cu) g3.out) (by assumption) ?_
        try simp only [Act.put, List.setIfInBounds_toArray, List.set_cons_zero, List.set_cons_succ]
        refine held_take (i := 10) (v := ?_) rfl (by kernel_rfl) (by kernel_rfl) (by kernel_rfl) (fun _ _ _ h => h) (Or.inl ⟨by rfl, ?_⟩) (by assumption) ?_
        rotate_left
        · intro w hSw; (try dsimp only at hSw); go_simp; try with_reducible rfl
        try simp only [Act.put, List.setIfInBounds_toArray, List.set_cons_zero, List.set_cons_succ]
        refine wpAnyH_done (by kernel_rfl) ?_ _
        clear hHeld
        go_wp2_with fail
        go_roundw
        case rel => exact ⟨k + 1, by omega, by go_num, hm2.out, hBd.out⟩
        case measure => simp [intOf]; omega
    · obtain rfl : k = n := by omega
      have hno2 : ¬ u ∈ T := fun hs => by
        obtain ⟨i, hi, e⟩ := List.mem_iff_getElem.1 hs
        have := hm i (by rw [en.out]; exact hi)
        rw [List.getD_eq_getElem?_getD, List.getElem?_eq_getElem hi] at this
        simp [e] at this
      have dT : false = B := by rw [eB.out]; exact (decide_eq_false hno2).symm
      replace hm := Lib.hid hm
      replace hB := Lib.hid hB
      replace hno2 := Lib.hid hno2
      replace dT := Lib.hid dT
      go_wp2_with fail
      go_ret
      exact ⟨by rw [← dT.out]; rfl, hB.out⟩
end Go.Proofs.Ytjbmdeppoobccaa
