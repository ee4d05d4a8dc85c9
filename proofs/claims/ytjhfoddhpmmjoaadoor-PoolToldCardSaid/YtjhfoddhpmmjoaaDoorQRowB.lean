/-
  What a world keeps: the relation 'Upd S w w'' (blocks outside S are as they were), and small laws on blocks. No condition. No program is in sight here.
  A block of bytes as a list. No condition; no program in sight.
-/
import Derived.WalkKit
import Derived.WalkLawsBesides
import Derived.Lib.Hide
import Derived.Maps.OwnOps
import Derived.Maps.OwnSet
import Derived.Maps.RangeWalk
import Derived.Maps.Views
import Derived.Laws.CopyOwn
import Derived.StillTailTactics
namespace Go.Proofs.YtjhfoddhpmmjoaaDoor
open Go.RowKit Go.Maps

/-- Of the blocks that w has, those outside S are in w' as they were; the streams are as they were. -/
structure Upd (S : Nat → Prop) (w w' : World) : Prop where
  os : w'.os = w.os
  tape : w'.tape = w.tape
  output : w'.output = w.output
  size : w.heap.size ≤ w'.heap.size
  block : ∀ k, k < w.heap.size → ¬ S k → w'.heap[k]? = w.heap[k]?

theorem Upd.refl (S : Nat → Prop) (w : World) : Upd S w w := ⟨rfl, rfl, rfl, Nat.le_refl _, fun _ _ _ => rfl⟩

theorem Upd.trans {S T : Nat → Prop} {a b c : World} (h : Upd S a b) (k : Upd T b c) (hST : ∀ i, i < a.heap.size → T i → S i) : Upd S a c :=
  ⟨k.os.trans h.os, k.tape.trans h.tape, k.output.trans h.output, Nat.le_trans h.size k.size,
    fun i hi hs => (k.block i (Nat.lt_of_lt_of_le hi h.size) (fun ht => hs (hST i hi ht))).trans (h.block i hi hs)⟩

theorem Upd.mono {S T : Nat → Prop} {a b : World} (h : Upd S a b) (hST : ∀ i, i < a.heap.size → S i → T i) : Upd T a b :=
  ⟨h.os, h.tape, h.output, h.size, fun i hi ht => h.block i hi (fun hs => ht (hST i hi hs))⟩

theorem Upd.drew {S : Nat → Prop} {a w : World} (h : Upd S a w) : Upd S a w.drew := ⟨h.os, h.tape, h.output, h.size, h.block⟩
theorem Upd.drewN {S : Nat → Prop} {a w : World} (h : Upd S a w) (n : Nat) : Upd S a (w.drewN n) := ⟨h.os, h.tape, h.output, h.size, h.block⟩

theorem Upd.alloc {S : Nat → Prop} {a w : World} (h : Upd S a w) (o : Obj) : Upd S a (w.alloc o) :=
  ⟨h.os, h.tape, h.output, by have := h.size; simp; omega, fun i hi hs => by
    rw [heap_alloc_old (h := Nat.lt_of_lt_of_le hi h.size)]; exact h.block i hi hs⟩

theorem Upd.setCell {S : Nat → Prop} {a w : World} (h : Upd S a w) (p : Addr) (v : Value) (hp : p.block < a.heap.size → S p.block) : Upd S a (w.setCell p v) :=
  ⟨h.os, h.tape, h.output, by have := h.size; simpa using this, fun i hi hs => by
    rw [heap_setCell_other _ _ _ _ (fun e => hs (by subst e; exact hp hi))]; exact h.block i hi hs⟩

theorem Upd.grown {S : Nat → Prop} {a w w' : World} {row : Option Nat} (h : Upd S a w) (hg : w.grownBy w' row) (hr : ∀ k, row = some k → k < a.heap.size → S k) : Upd S a w' :=
  ⟨hg.os.trans h.os, hg.tape.trans h.tape, hg.output.trans h.output, Nat.le_trans h.size hg.size, fun i hi hs =>
    (hg.block i (Nat.lt_of_lt_of_le hi h.size) (fun e => hs (hr i e.symm hi))).trans (h.block i hi hs)⟩

theorem Upd.turned {S : Nat → Prop} {a w w' : World} {b : Nat} (h : Upd S a w) (hg : w.mapTurned w' b) (hr : b < a.heap.size → S b) : Upd S a w' := by
  obtain ⟨es, clock, es', clock', hb, rfl⟩ := hg
  refine ⟨h.os, h.tape, h.output, by have := h.size; simpa [ChangeMaps.setBlock] using this, fun i hi hs => ?_⟩
  rw [ChangeMaps.heap_setBlock_other hb _ (fun e => hs (by subst e; exact hr hi))]; exact h.block i hi hs

theorem Upd.below {S : Nat → Prop} {w w' : World} {B : Nat} (h : Upd S w w') (hS : ∀ k, k < B → ¬ S k) (hB : B ≤ w.heap.size) : Below B w w' :=
  ⟨h.os, h.tape, h.output, h.size, fun k hk => h.block k (Nat.lt_of_lt_of_le hk hB) (hS k hk)⟩

theorem Upd.of_below {S : Nat → Prop} {w w' : World} (h : Below w.heap.size w w') : Upd S w w' :=
  ⟨h.os, h.tape, h.output, h.size, fun k hk _ => h.block k hk⟩

theorem Upd.cell {S : Nat → Prop} {w w' : World} (h : Upd S w w') {p : Addr} (hp : p.block < w.heap.size) (hs : ¬ S p.block) : w'.cell? p = w.cell? p :=
  World.cell?_of_block (w := w) (h.block p.block hp hs)

/-- What a block of w holds it holds in w', if it is not of S. -/
theorem Upd.at {S : Nat → Prop} {w w' : World} (h : Upd S w w') {b : Nat} {o : Obj} (hb : w.heap[b]? = some o) (hs : ¬ S b) : w'.heap[b]? = some o :=
  (h.block b (Array.getElem?_eq_some_iff.1 hb).1 hs).trans hb

theorem lt_of_block {w : World} {b : Nat} {o : Obj} (hb : w.heap[b]? = some o) : b < w.heap.size := (Array.getElem?_eq_some_iff.1 hb).1

theorem ownsMap_at {H : Type} {P : Program} {k : TypeId} {R : Value → Option (DataW H × List MemPlace)} {w w' : World} {b n : Nat} {D : DataW H}
    (h : w.ownsMap P k R b n D) (e : w'.heap[b]? = w.heap[b]?) : w'.ownsMap P k R b n D := by
  obtain ⟨es, clock, hb, r⟩ := h
  exact ⟨es, clock, e.trans hb, r⟩

theorem ret_int {k : IntKind} {a b : Int} (h : a = b) : Ending.returned (.int k a) = .returned (.int k b) := by rw [h]
theorem ret_bool {a b : Bool} (h : a = b) : Ending.returned (.bool a) = .returned (.bool b) := by rw [h]

theorem heap_drewN (w : World) (n : Nat) : (w.drewN n).heap = w.heap := rfl

/-- 'copy' at the operation, the world behind it told whole. -/
theorem wpList_copy_row {P : Program} {w : World} {ops : Array Oper} {rest : List Oper} {o : Oper} {a : Act} {Q : Exit → Act → World → Prop} (hgd : o.guard = none) (d s : Operand) (dT sT : TypeId)
    (ho : o.op = .call { callee := .builtin .copy, args := #[d, s], argTypes := #[dT, sT] }) (elem : TypeId) (hu : P.underlying dT = some (.slice elem)) (hsz : (P.info? elem).map (·.size) = some 1)
    (g off dLen dCap : Nat) (ad : Addr) (sLen sCap : Nat) (hd : a.eval d = .slice (some ⟨g, off, none⟩) dLen dCap) (hs : a.eval s = .slice (some ad) sLen sCap)
    (cur : Array Value) (t : TypeId) (hg : w.heap[g]? = some (.cells cur t (0, 0))) (cs : List Value) (hn : cs.length = Nat.min sLen dLen)
    (hsrc : ∀ j v, cs[j]? = some v → w.cell? (ad.add j) = some v) (hfit : off + cs.length ≤ cur.size) (h1 : ∀ v ∈ cs, v.oneCell' = true)
    (X : Array Value) (hX : (cur.toList.take off ++ (cs ++ cur.toList.drop (off + cs.length))).toArray = X)
    (h : ∀ w', Hid (w' = w.setRow g X) → wpList P ops Q rest (a.put o.dst (goInt cs.length)) w') : wpList P ops Q (o :: rest) a w :=
  wpList_copy_own hgd d s dT sT ho elem hu hsz g off dLen dCap ad sLen sCap hd hs cur t hg cs hn hsrc hfit h1 (h _ (by rw [hX]; exact rfl))

theorem Upd.setRow {S : Nat → Prop} {a w : World} (h : Upd S a w) (g : Nat) (cs : Array Value) (hp : g < a.heap.size → S g) : Upd S a (w.setRow g cs) :=
  ⟨h.os, h.tape, h.output, by have := h.size; simpa using this, fun i hi hs => by
    rw [setRow_other w g i cs (fun e => hs (by subst e; exact hp hi))]; exact h.block i hi hs⟩

/-- 'a[i]', a an array's value of one cell an element. -/
theorem run_index_row {P : Program} (w : World) (t e : TypeId) (n : Nat) (cs : Array Value) (kk : IntKind) (k : Nat) (v : Value) (h : P.underlying t = some (.array n e)) (hp : P.plainKey e = true) (hs : (P.info? e).map (·.size) = some 1)
    (hk : k < n) (hv : cs[k]? = some v) : (Instr.index t (.agg cs) (.int kk (k : Int))).run P w = .ok v w := by
  have h1 : (0 : Int) ≤ k ∧ (k : Int) < (n : Int) := by omega
  cases hq : P.info? e with
  | none => simp [hq] at hs
  | some i =>
    have hsz : i.size = 1 := by simpa [hq] using hs
    have hz : (sizeOf e).run P w = .ok 1 w := by simp [sizeOf, typeInfo, hq, hsz]
    have hpart := run_part_plain (P := P) w hp hv
    simp only [Instr.index, Sem.run_bind, Sem.run_pure, asIntOf, Result.andThen_ok, run_underlying h, if_pos h1, hz, Int.toNat_natCast, Nat.mul_one, hpart]

end Go.Proofs.YtjhfoddhpmmjoaaDoor
namespace Go.Proofs.YtjhfoddhpmmjoaaDoor
set_option maxRecDepth 100000
open Go.RowKit

/-- The bytes of a list, as a function. -/
def byt (buf : List Nat) (i : Nat) : Nat := buf.getD i 0

def u8s (l : List Nat) : Array Value := (l.map fun (n : Nat) => Value.int .u8 (n : Int)).toArray
/-- Bytes at a block. -/
def RowB (w : World) (b t : Nat) (l : List Nat) : Prop := w.heap[b]? = some (.cells (u8s l) t (0, 0))
theorem RowB.cell {w : World} {b t : Nat} {l : List Nat} (h : RowB w b t l) {i x : Nat} (hi : l[i]? = some x) : w.cell? ⟨b, i, none⟩ = some (.int .u8 (x : Int)) := by
  rw [cell_of_row _ _ _ _ _ _ h]; simp [u8s, hi]
theorem RowB.byt {w : World} {b t : Nat} {l : List Nat} (h : RowB w b t l) {i : Nat} (hi : i < l.length) : w.cell? ⟨b, i, none⟩ = some (.int .u8 (byt l i : Int)) := by
  rw [cell_of_row _ _ _ _ _ _ h]; simp [u8s, Go.Proofs.YtjhfoddhpmmjoaaDoor.byt, List.getD, hi]
theorem RowB.frozen {w : World} {b t : Nat} {l : List Nat} (h : RowB w b t l) (i : Nat) : w.frozen? ⟨b, i, none⟩ = false := frozen_of_row _ _ _ _ _ h
theorem RowB.set {w : World} {b t : Nat} {l : List Nat} (h : RowB w b t l) (i x : Nat) : RowB (w.setCell ⟨b, i, none⟩ (.int .u8 (x : Int))) b t (l.set i x) := by
  unfold RowB
  rw [heap_setCell_same _ _ _ _ _ _ h]
  simp [u8s, List.map_set]
theorem RowB.other {w w' : World} {b t : Nat} {l : List Nat} (h : RowB w b t l) (e : w'.heap[b]? = w.heap[b]?) : RowB w' b t l := e.trans h
theorem RowB.lt {w : World} {b t : Nat} {l : List Nat} (h : RowB w b t l) : b < w.heap.size := lt_of_block h

theorem ret_row {P : Program} {fn : Func} {R : Ending → World → Prop} {a : Act} {w : World} {p : Tmp} {ty : TypeId} (hr : fn.results = #[.cell p ty]) (hd : a.defers = []) (g : Nat) (t : TypeId) (cs : Array Value) (fr : Nat × Nat) (d : TypeDesc)
    (hp : a.tmps.getD p undef = .pointer (some ⟨g, 0, none⟩)) (hg : w.heap[g]? = some (.cells cs t fr)) (hu : P.underlying ty = some d) (hrow : (match d with | .struct _ | .array _ _ => true | _ => false) = true)
    (hi : (P.info? ty).map (·.size) = some cs.size) (hR : R (.returned (.agg cs)) w) : bodyPost P fn R .ret a w :=
  bodyPost_ret (results_cell_row hr a.tmps w g t cs fr d hp hg hu hrow hi) hd hR

theorem wp_store_s {P : Program} {w : World} {o : Oper} {a : Act} {K : Act → World → Prop} {Q : Exit → Act → World → Prop} (ty : TypeId) (x y : Operand) (ho : o.op = .store ty x y)
    (g : Nat) (t : List Nat) (hx : a.eval x = .pointer (some ⟨g, 0, none⟩)) (hy : a.eval y = .agg (u8s t)) (T : TypeId) (old : Array Value) (hg : w.heap[g]? = some (.cells old T (0, 0))) (hi : (P.info? ty).map (·.size) = some (u8s t).size)
    (hold : old.size = (u8s t).size) (h : ∀ w', Hid (RowB w' g T t) → Hid (Upd (fun i => i = g) w w') → K (a.put o.dst undef) w') : o.wp P a w K Q := by
  refine wp_store_row ty x y ho g (u8s t) hx hy T old hg hi hold (by simp [u8s, Value.oneCell']) ?_
  exact h _ (setRow_heap _ _ _ _ _ _ hg) (Upd.setRow (Upd.refl _ _) g _ (fun _ => rfl))
theorem wpList_store_s {P : Program} {w : World} {ops : Array Oper} {rest : List Oper} {o : Oper} {a : Act} {Q : Exit → Act → World → Prop} (hw : Region.wanted o (yielded ops a.tmps) = true) (ty : TypeId) (x y : Operand) (ho : o.op = .store ty x y)
    (g : Nat) (t : List Nat) (hx : a.eval x = .pointer (some ⟨g, 0, none⟩)) (hy : a.eval y = .agg (u8s t)) (T : TypeId) (old : Array Value) (hg : w.heap[g]? = some (.cells old T (0, 0))) (hi : (P.info? ty).map (·.size) = some (u8s t).size)
    (hold : old.size = (u8s t).size) (h : ∀ w', Hid (RowB w' g T t) → Hid (Upd (fun i => i = g) w w') → wpList P ops Q rest (a.put o.dst undef) w') : wpList P ops Q (o :: rest) a w :=
  wpList_step fun _ hK => by rw [if_pos hw]; exact wp_store_s ty x y ho g t hx hy T old hg hi hold fun w' g1 g2 => hK _ _ (h w' g1 g2)
/-- .. into a block just made. -/
theorem wpList_store_n {P : Program} {w : World} {zs : Array Value} {T : TypeId} {ops : Array Oper} {rest : List Oper} {o : Oper} {a : Act} {Q : Exit → Act → World → Prop} (hw : Region.wanted o (yielded ops a.tmps) = true) (ty : TypeId) (x y : Operand) (ho : o.op = .store ty x y)
    (t : List Nat) (hx : a.eval x = .pointer (some ⟨w.heap.size, 0, none⟩)) (hy : a.eval y = .agg (u8s t)) (hi : (P.info? ty).map (·.size) = some (u8s t).size)
    (hold : zs.size = (u8s t).size) (h : ∀ w', Hid (RowB w' w.heap.size T t) → Hid (Below w.heap.size w w') → wpList P ops Q rest (a.put o.dst undef) w') : wpList P ops Q (o :: rest) a (w.alloc (.cells zs T)) :=
  wpList_store_s hw ty x y ho w.heap.size t hx hy T zs (heap_alloc_new _ _) hi hold fun w' g1 g2 => h w' g1 (((Below.refl _ _).alloc (Nat.le_refl _) _).trans (g2.out.below (fun k hk e => by omega) (by simp)))

/-- A load of such a row. -/
theorem wpList_load_b {P : Program} {w : World} {ops : Array Oper} {rest : List Oper} {o : Oper} {a : Act} {Q : Exit → Act → World → Prop} (hgd : o.guard = none) (ty : TypeId) (x : Operand) (ho : o.op = .load ty x)
    (g : Nat) (hx : a.eval x = .pointer (some ⟨g, 0, none⟩)) (T : TypeId) (t : List Nat) (hg : RowB w g T t) (d : TypeDesc)
    (hu : P.underlying ty = some d) (hd : (match d with | .struct _ | .array _ _ => true | _ => false) = true) (hi : (P.info? ty).map (·.size) = some (u8s t).size)
    (h : wpList P ops Q rest (a.put o.dst (.agg (u8s t))) w) : wpList P ops Q (o :: rest) a w :=
  wpList_load_row hgd ty x ho g hx T (u8s t) (0, 0) d hg hu hd hi h
theorem RowB.below {w w' : World} {b t n : Nat} {l : List Nat} (h : RowB w b t l) (hB : Below n w w') (hn : b < n) : RowB w' b t l := h.other (hB.block b hn)
theorem RowB.drew {w : World} {b t : Nat} {l : List Nat} (h : RowB w b t l) : RowB w.drew b t l := h
theorem RowB.alloc {w : World} {b t : Nat} {l : List Nat} (h : RowB w b t l) (o : Obj) : RowB (w.alloc o) b t l := by unfold RowB; rw [heap_alloc_old (h := h.lt)]; exact h

end Go.Proofs.YtjhfoddhpmmjoaaDoor
