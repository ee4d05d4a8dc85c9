/-
  A block of bytes as a list. No condition; no program in sight.
-/
import Derived.Test.YtjhfoddhpmmjoaaDoorBase
namespace Go.Proofs.YtjhfoddhpmmjoaaDoor
set_option maxRecDepth 100000
open Go.RowKit

/-- The bytes of a list, as a function. -/
def byt (buf : List Nat) (i : Nat) : Nat := buf.getD i 0

def u8s (l : List Nat) : Array Value := (l.map fun (n : Nat) => Value.int .u8 (n : Int)).toArray
/-- Bytes at a block. -/
def RowB (w : World) (b t : Nat) (l : List Nat) : Prop := w.heap[b]? = some (.cells (u8s l) t (0, 0))
theorem RowB.cell {w : World} {b t : Nat} {l : List Nat} (h : RowB w b t l) {i x : Nat} (hi : l[i]? = some x) : w.cell? ⟨b, i, none⟩ = some (.int .u8 (x : Int)) := by
  rw [cell_of_row _ _ _ _ _ _ h]; simp [u8s, hi]
theorem RowB.byt {w : World} {b t : Nat} {l : List Nat} (h : RowB w b t l) {i : Nat} (hi : i < l.length) : w.cell? ⟨b, i, none⟩ = some (.int .u8 (byt l i : Int)) := by
  rw [cell_of_row _ _ _ _ _ _ h]; simp [u8s, Go.Proofs.YtjhfoddhpmmjoaaDoor.byt, List.getD, hi]
theorem RowB.frozen {w : World} {b t : Nat} {l : List Nat} (h : RowB w b t l) (i : Nat) : w.frozen? ⟨b, i, none⟩ = false := frozen_of_row _ _ _ _ _ h
theorem RowB.set {w : World} {b t : Nat} {l : List Nat} (h : RowB w b t l) (i x : Nat) : RowB (w.setCell ⟨b, i, none⟩ (.int .u8 (x : Int))) b t (l.set i x) := by
  unfold RowB
  rw [heap_setCell_same _ _ _ _ _ _ h]
  simp [u8s, List.map_set]
theorem RowB.other {w w' : World} {b t : Nat} {l : List Nat} (h : RowB w b t l) (e : w'.heap[b]? = w.heap[b]?) : RowB w' b t l := e.trans h
theorem RowB.lt {w : World} {b t : Nat} {l : List Nat} (h : RowB w b t l) : b < w.heap.size := lt_of_block h

theorem ret_row {P : Program} {fn : Func} {R : Ending → World → Prop} {a : Act} {w : World} {p : Tmp} {ty : TypeId} (hr : fn.results = #[.cell p ty]) (hd : a.defers = []) (g : Nat) (t : TypeId) (cs : Array Value) (fr : Nat × Nat) (d : TypeDesc)
    (hp : a.tmps.getD p undef = .pointer (some ⟨g, 0, none⟩)) (hg : w.heap[g]? = some (.cells cs t fr)) (hu : P.underlying ty = some d) (hrow : (match d with | .struct _ | .array _ _ => true | _ => false) = true)
    (hi : (P.info? ty).map (·.size) = some cs.size) (hR : R (.returned (.agg cs)) w) : bodyPost P fn R .ret a w :=
  bodyPost_ret (results_cell_row hr a.tmps w g t cs fr d hp hg hu hrow hi) hd hR

theorem wp_store_s {P : Program} {w : World} {o : Oper} {a : Act} {K : Act → World → Prop} {Q : Exit → Act → World → Prop} (ty : TypeId) (x y : Operand) (ho : o.op = .store ty x y)
    (g : Nat) (t : List Nat) (hx : a.eval x = .pointer (some ⟨g, 0, none⟩)) (hy : a.eval y = .agg (u8s t)) (T : TypeId) (old : Array Value) (hg : w.heap[g]? = some (.cells old T (0, 0))) (hi : (P.info? ty).map (·.size) = some (u8s t).size)
    (hold : old.size = (u8s t).size) (h : ∀ w', Hid (RowB w' g T t) → Hid (Upd (fun i => i = g) w w') → K (a.put o.dst undef) w') : o.wp P a w K Q := by
  refine wp_store_row ty x y ho g (u8s t) hx hy T old hg hi hold (by simp [u8s, Value.oneCell']) ?_
  exact h _ (setRow_heap _ _ _ _ _ _ hg) (Upd.setRow (Upd.refl _ _) g _ (fun _ => rfl))
theorem wpList_store_s {P : Program} {w : World} {ops : Array Oper} {rest : List Oper} {o : Oper} {a : Act} {Q : Exit → Act → World → Prop} (hw : Region.wanted o (yielded ops a.tmps) = true) (ty : TypeId) (x y : Operand) (ho : o.op = .store ty x y)
    (g : Nat) (t : List Nat) (hx : a.eval x = .pointer (some ⟨g, 0, none⟩)) (hy : a.eval y = .agg (u8s t)) (T : TypeId) (old : Array Value) (hg : w.heap[g]? = some (.cells old T (0, 0))) (hi : (P.info? ty).map (·.size) = some (u8s t).size)
    (hold : old.size = (u8s t).size) (h : ∀ w', Hid (RowB w' g T t) → Hid (Upd (fun i => i = g) w w') → wpList P ops Q rest (a.put o.dst undef) w') : wpList P ops Q (o :: rest) a w :=
  wpList_step fun _ hK => by rw [if_pos hw]; exact wp_store_s ty x y ho g t hx hy T old hg hi hold fun w' g1 g2 => hK _ _ (h w' g1 g2)
/-- .. into a block just made. -/
theorem wpList_store_n {P : Program} {w : World} {zs : Array Value} {T : TypeId} {ops : Array Oper} {rest : List Oper} {o : Oper} {a : Act} {Q : Exit → Act → World → Prop} (hw : Region.wanted o (yielded ops a.tmps) = true) (ty : TypeId) (x y : Operand) (ho : o.op = .store ty x y)
    (t : List Nat) (hx : a.eval x = .pointer (some ⟨w.heap.size, 0, none⟩)) (hy : a.eval y = .agg (u8s t)) (hi : (P.info? ty).map (·.size) = some (u8s t).size)
    (hold : zs.size = (u8s t).size) (h : ∀ w', Hid (RowB w' w.heap.size T t) → Hid (Below w.heap.size w w') → wpList P ops Q rest (a.put o.dst undef) w') : wpList P ops Q (o :: rest) a (w.alloc (.cells zs T)) :=
  wpList_store_s hw ty x y ho w.heap.size t hx hy T zs (heap_alloc_new _ _) hi hold fun w' g1 g2 => h w' g1 (((Below.refl _ _).alloc (Nat.le_refl _) _).trans (g2.out.below (fun k hk e => by omega) (by simp)))

/-- A load of such a row. -/
theorem wpList_load_b {P : Program} {w : World} {ops : Array Oper} {rest : List Oper} {o : Oper} {a : Act} {Q : Exit → Act → World → Prop} (hgd : o.guard = none) (ty : TypeId) (x : Operand) (ho : o.op = .load ty x)
    (g : Nat) (hx : a.eval x = .pointer (some ⟨g, 0, none⟩)) (T : TypeId) (t : List Nat) (hg : RowB w g T t) (d : TypeDesc)
    (hu : P.underlying ty = some d) (hd : (match d with | .struct _ | .array _ _ => true | _ => false) = true) (hi : (P.info? ty).map (·.size) = some (u8s t).size)
    (h : wpList P ops Q rest (a.put o.dst (.agg (u8s t))) w) : wpList P ops Q (o :: rest) a w :=
  wpList_load_row hgd ty x ho g hx T (u8s t) (0, 0) d hg hu hd hi h
theorem RowB.below {w w' : World} {b t n : Nat} {l : List Nat} (h : RowB w b t l) (hB : Below n w w') (hn : b < n) : RowB w' b t l := h.other (hB.block b hn)
theorem RowB.drew {w : World} {b t : Nat} {l : List Nat} (h : RowB w b t l) : RowB w.drew b t l := h
theorem RowB.alloc {w : World} {b t : Nat} {l : List Nat} (h : RowB w b t l) (o : Obj) : RowB (w.alloc o) b t l := by unfold RowB; rw [heap_alloc_old (h := h.lt)]; exact h

end Go.Proofs.YtjhfoddhpmmjoaaDoor
