/-
  The reference of layer 17: room, Take, Claim, Hold, Drop. Condition: the blocks are its own.
-/
import Derived.Test.YtjhfoddhpmmjoaaDoorRefE2
namespace Go.Proofs.YtjhfoddhpmmjoaaDoor
set_option maxRecDepth 100000
open Go.RowKit
theorem infoQTen4 : (Tryd.prog.info? 57).map (·.size) = some 4 := by kernel_rfl
/-- A tenant stored into a block just made. -/
theorem wpList_store_ten {w : World} {zs : Array Value} {ops : Array Oper} {rest : List Oper} {o : Oper} {a : Act} {Q : Exit → Act → World → Prop} (hgd : o.guard = none) (x y : Operand) (ho : o.op = .store 57 x y)
    (t : Ten) (hx : a.eval x = .pointer (some ⟨w.heap.size, 0, none⟩)) (hy : a.eval y = .agg (tenV t).toArray)
    (hold : zs.size = 4) (h : ∀ w', Hid (w'.heap[w.heap.size]? = some (.cells (tenV t).toArray 57 (0, 0))) → Hid (Below w.heap.size w w') → wpList Tryd.prog ops Q rest (a.put o.dst undef) w') : wpList Tryd.prog ops Q (o :: rest) a (w.alloc (.cells zs 57)) := by
  refine wpList_store_row hgd 57 x y ho w.heap.size (tenV t).toArray hx hy 57 zs (heap_alloc_new _ _) infoQTen4 hold (by simp [tenV, Value.oneCell']) ?_
  exact h _ (setRow_heap _ _ _ _ _ _ (heap_alloc_new _ _)) (((Below.refl _ _).alloc (Nat.le_refl _) _).trans ((Upd.setRow (S := fun i => i = w.heap.size) (Upd.refl _ _) w.heap.size _ (fun _ => rfl)).below (fun k hk e => by omega) (by simp)))
theorem ten_cell {w : World} {g : Nat} {t : Ten} (h : w.heap[g]? = some (.cells (tenV t).toArray 57 (0, 0))) : w.cell? ⟨g, 0, none⟩ = some (.bool t.on) ∧ w.cell? ⟨g, 1, none⟩ = some (.int .i64 (t.r : Int)) ∧ w.cell? ⟨g, 2, none⟩ = some (.int .i64 (t.q : Int)) ∧ w.cell? ⟨g, 3, none⟩ = some (.int .i64 (t.c : Int)) :=
  ⟨(cell_of_row _ _ 0 _ _ _ h).trans rfl, (cell_of_row _ _ 1 _ _ _ h).trans rfl, (cell_of_row _ _ 2 _ _ _ h).trans rfl, (cell_of_row _ _ 3 _ _ _ h).trans rfl⟩
section
variable {w : World} {c cl n : Nat} {L : Nat → Nat} {T : Nat → Ten}
set_option maxHeartbeats 4000000 in
set_option maxRecDepth 100000 in
theorem qroom_any (h : RefE w c cl n L T) (k : Nat) (k9 : k < 9) :
    Calls Tryd.prog 76 #[.pointer (some ⟨c, 0, none⟩), .int .i64 (k : Int)] w fun e w' => e = .returned (.int .i64 (roomE n T (T k))) ∧ Below w.heap.size w w' := by
  have tn := h.ten k9
  have d0 : 0 ≤ (k : Int) ∧ (k : Int) < 9 := by omega
  have hfit := h.good.fits
  have hs := fun x (hx : RefE x c cl n L T) => qslack_any hx
  unfold roomE
  generalize T k = x at *
  generalize sumA T 9 = S at *
  have dd : (decide ((x.c : Int) ≥ (x.q : Int)) = true ∧ x.q ≤ x.c) ∨ (decide ((x.c : Int) ≥ (x.q : Int)) = false ∧ ¬ x.q ≤ x.c ∧ ((decide ((x.c : Int) ≥ (x.r : Int)) = false ∧ ¬ x.r ≤ x.c) ∨ (decide ((x.c : Int) ≥ (x.r : Int)) = true ∧ x.r ≤ x.c ∧ (((((n : Int) - (S : Int)) == 0) = true ∧ S = n) ∨ ((((n : Int) - (S : Int)) == 0) = false ∧ ¬ S = n))))) := by
    simp only [decide_eq_true_eq, decide_eq_false_iff_not, beq_iff_eq, beq_eq_false_iff_ne]
    omega
  rcases dd with ⟨d1, e1⟩ | ⟨d1, e1, ⟨d2, e2⟩ | ⟨d2, e2, ⟨d3, e3⟩ | ⟨d3, e3⟩⟩⟩
  · rw [if_pos e1]
    replace h := Lib.hid h
    replace tn := Lib.hid tn
    replace hs := Lib.hid hs
    go_enter Tryd.func76, Tryd.ntmps76
    go_wp2_with (first
      | refine wpList_load_mid (by rfl) 57 (.tmp 10) rfl c (1 + k * 4) rfl (tenV x) _ tn.out Tryd.underlying57 rfl (infoQTen x) ?_
      | (refine wpList_store_ten (by rfl) (.tmp 5) (.tmp 11) rfl x rfl rfl rfl ?_; intro w2 R2 B2; obtain ⟨y0, y1, y2, y3⟩ := ten_cell R2.out; have h2 := h.out.below B2.out; replace h2 := Lib.hid h2; have hss := hs.out _ h2.out; replace hss := Lib.hid hss))
    go_ret
    exact ⟨rfl, B2.out⟩
  · rw [if_neg e1, if_neg (fun e => e2 e.1)]
    replace h := Lib.hid h
    replace tn := Lib.hid tn
    replace hs := Lib.hid hs
    go_enter Tryd.func76, Tryd.ntmps76
    go_wp2_with (first
      | refine wpList_load_mid (by rfl) 57 (.tmp 10) rfl c (1 + k * 4) rfl (tenV x) _ tn.out Tryd.underlying57 rfl (infoQTen x) ?_
      | (refine wpList_store_ten (by rfl) (.tmp 5) (.tmp 11) rfl x rfl rfl rfl ?_; intro w2 R2 B2; obtain ⟨y0, y1, y2, y3⟩ := ten_cell R2.out; have h2 := h.out.below B2.out; replace h2 := Lib.hid h2; have hss := hs.out _ h2.out; replace hss := Lib.hid hss))
    go_ret
    exact ⟨rfl, B2.out⟩
  · rw [if_neg e1, if_pos ⟨e2, e3⟩]
    replace h := Lib.hid h
    replace tn := Lib.hid tn
    replace hs := Lib.hid hs
    go_enter Tryd.func76, Tryd.ntmps76
    go_wp2_with (first
      | refine wpList_load_mid (by rfl) 57 (.tmp 10) rfl c (1 + k * 4) rfl (tenV x) _ tn.out Tryd.underlying57 rfl (infoQTen x) ?_
      | (refine wpList_store_ten (by rfl) (.tmp 5) (.tmp 11) rfl x rfl rfl rfl ?_; intro w2 R2 B2; obtain ⟨y0, y1, y2, y3⟩ := ten_cell R2.out; have h2 := h.out.below B2.out; replace h2 := Lib.hid h2; have hss := hs.out _ h2.out; replace hss := Lib.hid hss))
    refine hss.out.mono ?_
    rintro e w3 ⟨rfl, B3⟩
    have B4 := B2.out.trans (B3.mono B2.out.size)
    replace B4 := Lib.hid B4
    go_wp2_with fail
    go_ret
    exact ⟨rfl, B4.out⟩
  · rw [if_neg e1, if_neg (fun e => e3 e.2)]
    replace h := Lib.hid h
    replace tn := Lib.hid tn
    replace hs := Lib.hid hs
    go_enter Tryd.func76, Tryd.ntmps76
    go_wp2_with (first
      | refine wpList_load_mid (by rfl) 57 (.tmp 10) rfl c (1 + k * 4) rfl (tenV x) _ tn.out Tryd.underlying57 rfl (infoQTen x) ?_
      | (refine wpList_store_ten (by rfl) (.tmp 5) (.tmp 11) rfl x rfl rfl rfl ?_; intro w2 R2 B2; obtain ⟨y0, y1, y2, y3⟩ := ten_cell R2.out; have h2 := h.out.below B2.out; replace h2 := Lib.hid h2; have hss := hs.out _ h2.out; replace hss := Lib.hid hss))
    refine hss.out.mono ?_
    rintro e w3 ⟨rfl, B3⟩
    have B4 := B2.out.trans (B3.mono B2.out.size)
    replace B4 := Lib.hid B4
    go_wp2_with fail
    go_ret
    exact ⟨rfl, B4.out⟩
end
end Go.Proofs.YtjhfoddhpmmjoaaDoor
