/-
  Texts joined by 'append', texts in a row. Condition: not too long.
-/
import Derived.Test.YtjbmdeppoobccaaStr
import Derived.Test.YtjbmdeppoobccaaShaBoth
namespace Go.Proofs.Ytjbmdeppoobccaa
open Go.RowKit

theorem infoU8' : ∃ i, Try.prog.info? 5 = some i ∧ i.zero = some (.int .u8 0) ∧ i.size = 1 ∧ i.bytes = 1 := by
  have h := infoU8
  cases hq : Try.prog.info? 5 with
  | none => simp [hq] at h
  | some i => simp [hq] at h; exact ⟨i, rfl, h.1, h.2.1, h.2.2⟩

/-- 'append' of a text to one that is the call's own (or nil): at the operation. -/
theorem wp_append_t {w : World} {o : Oper} {a : Act} {K : Act → World → Prop} {Q : Exit → Act → World → Prop} (s x : Operand)
    (ho : o.op = .call { callee := .builtin .append, args := #[s, x], argTypes := #[22, 22] })
    (base : Nat) (w0 : World) (v : Value) (t : List Nat) (hs : a.eval s = v) (hown : Own w base 5 v (u8l t)) (hB : Below base w0 w) (hbase : base ≤ w.heap.size)
    (vx : Value) (u : List Nat) (hx : a.eval x = vx) (hu : TextAt w vx u) (hlen : t.length + u.length ≤ 1000000000)
    (h : ∀ v' w', Hid (Own w' base 5 v' (u8l (t ++ u))) → Hid (Below base w0 w') → Hid (w.grownBy w' v.ownBlock) → Hid (v'.ownBlock = v.ownBlock ∨ v'.ownBlock = some w.heap.size) → K (a.put o.dst v') w') : o.wp Try.prog a w K Q := by
  obtain ⟨i, hi, hz, hsz, hb⟩ := infoU8'
  obtain ⟨ao, cap, rfl, h1, h2, h3⟩ := hu.ex
  have ht : Try.prog.underlying 22 = some (.slice 5) := Try.underlying22
  have hl : (u8l t).length + u.length ≤ maxLen := by simp only [maxLen, u8l, List.length_map]; omega
  have hbb : ((u8l t).length + u.length) * 1 ≤ 140737488355328 := by simp only [u8l, List.length_map]; omega
  have fin : ∀ v' w', w'.ownsRow base 5 1 v' ((u8l t).length + u.length) (u8l t ++ u8l u) → w.grownBy w' v.ownBlock → (v'.ownBlock = v.ownBlock ∨ v'.ownBlock = some w.heap.size) → K (a.put o.dst v') w' := fun v' w' g2 g3 g5 => by
    refine h v' w' ?_ ?_ g3 g5
    · show w'.ownsRow base 5 1 v' (u8l (t ++ u)).length (u8l (t ++ u))
      rw [u8l_append, List.length_append, show (u8l u).length = u.length by simp [u8l]]; exact g2
    · refine hB.trans ⟨g3.os, g3.tape, g3.output, g3.size, fun k hk => g3.block k (by omega) fun eq => ?_⟩
      have := (hown.lt k eq.symm).1
      omega
  cases ao with
  | some ad =>
    obtain ⟨v', w', hr, g2, g3, _, g5⟩ := run_append_own_at (P := Try.prog) w base 22 o.type 5 i (.int .u8 0) 1 1 ht hi hz hsz hb rfl (by decide) v (u8l t).length (u8l t) hown ad u.length cap (u8l u) (by simp [u8l])
      (fun j y hj => by
        obtain ⟨ad', e1, e2⟩ := h3.news j y hj
        cases e1; exact e2) (u8l_one _) hl hbb hbase
    unfold Oper.wp execOp
    simp only [ho, resolve, invoke, builtin, Sem.run_bind, Sem.run_pure, Result.andThen_ok, List.map_toArray, List.map_cons, List.map_nil, hs, hx, hr]
    exact fin v' w' g2 g3 g5
  | none =>
    have hc := h2 rfl
    subst hc
    have h0 : u.length = 0 := by omega
    obtain rfl : u = [] := List.eq_nil_of_length_eq_zero h0
    have hr := run_append_owned_none (P := Try.prog) (w := w) base 22 o.type 5 i 1 ht hi v (u8l t).length (u8l t) hown
    unfold Oper.wp execOp
    simp only [ho, resolve, invoke, builtin, Sem.run_bind, Sem.run_pure, Result.andThen_ok, List.map_toArray, List.map_cons, List.map_nil, hs, hx, List.length_nil, hr]
    refine fin v w (by rw [List.length_nil, Nat.add_zero, show u8l [] = [] from rfl, List.append_nil]; exact hown) ⟨rfl, rfl, rfl, Nat.le_refl _, fun _ _ _ => rfl⟩ (.inl rfl)

theorem wpList_append_t {w : World} {ops : Array Oper} {rest : List Oper} {o : Oper} {a : Act} {Q : Exit → Act → World → Prop} (hw : Region.wanted o (yielded ops a.tmps) = true) (s x : Operand)
    (ho : o.op = .call { callee := .builtin .append, args := #[s, x], argTypes := #[22, 22] })
    (base : Nat) (w0 : World) (v : Value) (t : List Nat) (hs : a.eval s = v) (hown : Own w base 5 v (u8l t)) (hB : Below base w0 w) (hbase : base ≤ w.heap.size)
    (vx : Value) (u : List Nat) (hx : a.eval x = vx) (hu : TextAt w vx u) (hlen : t.length + u.length ≤ 1000000000)
    (h : ∀ v' w', Hid (Own w' base 5 v' (u8l (t ++ u))) → Hid (Below base w0 w') → Hid (w.grownBy w' v.ownBlock) → Hid (v'.ownBlock = v.ownBlock ∨ v'.ownBlock = some w.heap.size) → wpList Try.prog ops Q rest (a.put o.dst v') w') : wpList Try.prog ops Q (o :: rest) a w :=
  wpList_step fun _ hK => by rw [if_pos hw]; exact wp_append_t s x ho base w0 v t hs hown hB hbase vx u hx hu hlen fun v' w' g1 g2 g3 g4 => hK _ _ (h v' w' g1 g2 g3 g4)

/-- The same, only what is mostly asked. -/
theorem wpList_append_s {w : World} {ops : Array Oper} {rest : List Oper} {o : Oper} {a : Act} {Q : Exit → Act → World → Prop} (hw : Region.wanted o (yielded ops a.tmps) = true) (s x : Operand)
    (ho : o.op = .call { callee := .builtin .append, args := #[s, x], argTypes := #[22, 22] })
    (base : Nat) (w0 : World) (v : Value) (t : List Nat) (hs : a.eval s = v) (hown : Own w base 5 v (u8l t)) (hB : Below base w0 w) (hbase : base ≤ w.heap.size)
    (vx : Value) (u : List Nat) (hx : a.eval x = vx) (hu : TextAt w vx u) (hlen : t.length + u.length ≤ 1000000000)
    (h : ∀ v' w', Hid (Own w' base 5 v' (u8l (t ++ u))) → Hid (Below base w0 w') → wpList Try.prog ops Q rest (a.put o.dst v') w') : wpList Try.prog ops Q (o :: rest) a w :=
  wpList_append_t hw s x ho base w0 v t hs hown hB hbase vx u hx hu hlen fun v' w' g1 g2 _ _ => h v' w' g1 g2

theorem step_append_t {w : World} {ops : Array Oper} {o : Oper} {a : Act} {K : Act → World → Prop} {Q : Exit → Act → World → Prop} {E : Prop} (hw : Region.wanted o (yielded ops a.tmps) = true) (s x : Operand)
    (ho : o.op = .call { callee := .builtin .append, args := #[s, x], argTypes := #[22, 22] })
    (base : Nat) (w0 : World) (v : Value) (t : List Nat) (hs : a.eval s = v) (hown : Own w base 5 v (u8l t)) (hB : Below base w0 w) (hbase : base ≤ w.heap.size)
    (vx : Value) (u : List Nat) (hx : a.eval x = vx) (hu : TextAt w vx u) (hlen : t.length + u.length ≤ 1000000000)
    (h : ∀ v' w', Hid (Own w' base 5 v' (u8l (t ++ u))) → Hid (Below base w0 w') → Hid (w.grownBy w' v.ownBlock) → Hid (v'.ownBlock = v.ownBlock ∨ v'.ownBlock = some w.heap.size) → K (a.put o.dst v') w') : if Region.wanted o (yielded ops a.tmps) = true then Oper.wp Try.prog o a w K Q else E := by
  rw [if_pos hw]; exact wp_append_t s x ho base w0 v t hs hown hB hbase vx u hx hu hlen h

/-- A whole array of bytes stored: only its block turns. -/
theorem wp_store_s {w : World} {o : Oper} {a : Act} {K : Act → World → Prop} {Q : Exit → Act → World → Prop} (ty : TypeId) (x y : Operand) (ho : o.op = .store ty x y)
    (g : Nat) (t : List Nat) (hx : a.eval x = .pointer (some ⟨g, 0, none⟩)) (hy : a.eval y = .agg (u8s t)) (T : TypeId) (old : Array Value) (hg : w.heap[g]? = some (.cells old T (0, 0))) (hi : (Try.prog.info? ty).map (·.size) = some (u8s t).size)
    (hold : old.size = (u8s t).size) (h : ∀ w', Hid (RowB w' g T t) → Hid (Upd (fun i => i = g) w w') → K (a.put o.dst undef) w') : o.wp Try.prog a w K Q := by
  refine wp_store_row ty x y ho g (u8s t) hx hy T old hg hi hold (by simp [u8s, Value.oneCell']) ?_
  exact h _ (setRow_heap _ _ _ _ _ _ hg) (Upd.setRow (Upd.refl _ _) g _ (fun _ => rfl))
theorem wpList_store_s {w : World} {ops : Array Oper} {rest : List Oper} {o : Oper} {a : Act} {Q : Exit → Act → World → Prop} (hw : Region.wanted o (yielded ops a.tmps) = true) (ty : TypeId) (x y : Operand) (ho : o.op = .store ty x y)
    (g : Nat) (t : List Nat) (hx : a.eval x = .pointer (some ⟨g, 0, none⟩)) (hy : a.eval y = .agg (u8s t)) (T : TypeId) (old : Array Value) (hg : w.heap[g]? = some (.cells old T (0, 0))) (hi : (Try.prog.info? ty).map (·.size) = some (u8s t).size)
    (hold : old.size = (u8s t).size) (h : ∀ w', Hid (RowB w' g T t) → Hid (Upd (fun i => i = g) w w') → wpList Try.prog ops Q rest (a.put o.dst undef) w') : wpList Try.prog ops Q (o :: rest) a w :=
  wpList_step fun _ hK => by rw [if_pos hw]; exact wp_store_s ty x y ho g t hx hy T old hg hi hold fun w' g1 g2 => hK _ _ (h w' g1 g2)
/-- .. into a block just made. -/
theorem wpList_store_n {w : World} {zs : Array Value} {T : TypeId} {ops : Array Oper} {rest : List Oper} {o : Oper} {a : Act} {Q : Exit → Act → World → Prop} (hw : Region.wanted o (yielded ops a.tmps) = true) (ty : TypeId) (x y : Operand) (ho : o.op = .store ty x y)
    (t : List Nat) (hx : a.eval x = .pointer (some ⟨w.heap.size, 0, none⟩)) (hy : a.eval y = .agg (u8s t)) (hi : (Try.prog.info? ty).map (·.size) = some (u8s t).size)
    (hold : zs.size = (u8s t).size) (h : ∀ w', Hid (RowB w' w.heap.size T t) → Hid (Below w.heap.size w w') → wpList Try.prog ops Q rest (a.put o.dst undef) w') : wpList Try.prog ops Q (o :: rest) a (w.alloc (.cells zs T)) :=
  wpList_store_s hw ty x y ho w.heap.size t hx hy T zs (heap_alloc_new _ _) hi hold fun w' g1 g2 => h w' g1 (((Below.refl _ _).alloc (Nat.le_refl _) _).trans (g2.out.below (fun k hk e => by omega) (by simp)))

/-- Texts whose slices lie in a row. -/
theorem texts_of_row {w : World} {g : Nat} {vs : List Value} {ls : List (List Nat)} {ty : TypeId} {fr : Nat × Nat} (h : w.heap[g]? = some (.cells vs.toArray ty fr)) (hl : vs.length = ls.length)
    (hv : ∀ (i : Nat) (v : Value) (t : List Nat), vs[i]? = some v → ls[i]? = some t → TextAt w v t) : TextsAt w (some ⟨g, 0, none⟩) ls := fun i hi => by
  have e1 : vs[i]? = some vs[i] := List.getElem?_eq_getElem (by omega)
  have e2 : ls[i]? = some ls[i] := List.getElem?_eq_getElem hi
  obtain ⟨ao, cap, e, h1, h2, h3⟩ := (hv i _ _ e1 e2).ex
  have e3 : ls.getD i [] = ls[i] := by simp [List.getD, hi]
  rw [e3]
  refine ⟨g, 0, rfl, ao, cap, ?_, h1, h3, h2⟩
  rw [Nat.zero_add, cell_of_row _ _ _ _ _ _ h]
  simp only [List.getElem?_toArray, e1, e]
theorem TextAt.nil (w : World) : TextAt w (.slice none 0 0) [] := ⟨none, 0, rfl, Nat.le_refl _, fun _ => rfl, fun i hi => by simp at hi⟩
theorem TextAt.drew {w : World} {v : Value} {t : List Nat} (h : TextAt w v t) : TextAt w.drew v t := h.below (Below.refl _ _).drew
theorem TextAt.alloc {w : World} {v : Value} {t : List Nat} (h : TextAt w v t) (o : Obj) : TextAt (w.alloc o) v t := h.below ((Below.refl _ _).alloc (Nat.le_refl _) _)
theorem TextAt.low {w w' : World} {B : Nat} {v : Value} {t : List Nat} (h : TextAt w v t) (hB : Below B w w') (hs : w.heap.size ≤ B) : TextAt w' v t := h.below (hB.mono hs)
/-- An empty slice just made is the call's own. -/
theorem Own.empty {w : World} (base : Nat) (hb : base ≤ w.heap.size) : Own (w.alloc (.cells #[] 5)) base 5 (.slice (some ⟨w.heap.size, 0, none⟩) 0 0) (u8l []) :=
  Own.made (xs := []) (heap_alloc_new _ _) hb (by simp [maxLen])

end Go.Proofs.Ytjbmdeppoobccaa
