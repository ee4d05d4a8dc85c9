/-
  Rows of bytes: a part put, a part read; two results of which one lies in a row; two rows. No condition.
-/
import Derived.Test.YtecmagenlbnchaaQKeysFill
import Derived.Test.YtecmagenlbnchaaQWrapMix
import Derived.Test.YtecmagenlbnchaaQHeld
import Derived.Laws.ResultCell
import Derived.Deep.MidRow
namespace Go.Proofs.Ytecmagenlbnchaa
set_option maxRecDepth 100000
open Go.RowKit

theorem wp_build_is {P : Program} {o : Oper} {a : Act} {w : World} {K : Act → World → Prop} {Q : Exit → Act → World → Prop} (t : TypeId) (i j : Nat) (x y : Operand) (ho : o.op = .build t #[(i, x), (j, y)])
    (v u : Value) (hv : a.eval x = v) (hu : a.eval y = u) (cells : Array Value) (hb : P.built t [(i, v), (j, u)] = some cells) (h : K (a.put o.dst (.agg cells)) w) : o.wp P a w K Q := by
  have e : (#[(i, x), (j, y)].map fun ((i : Nat), x) => (i, a.eval x)).toList = [(i, v), (j, u)] := by simp [hv, hu]
  exact wp_build t _ ho (by rw [e, hb]; rfl) (by rw [e, hb]; exact h)
theorem wpList_build1 {P : Program} {ops : Array Oper} {rest : List Oper} {o : Oper} {a : Act} {w : World} {Q : Exit → Act → World → Prop} (hg : o.guard = none) (t : TypeId) (i : Nat) (v : Value) (ho : o.op = .build t #[(i, .const v)])
    (cells : Array Value) (hb : P.built t [(i, v)] = some cells) (h : wpList P ops Q rest (a.put o.dst (.agg cells)) w) : wpList P ops Q (o :: rest) a w := by
  have e : (#[(i, Operand.const v)].map fun ((i : Nat), x) => (i, a.eval x)).toList = [(i, v)] := by simp [Act.eval]
  exact wpList_build hg t _ ho (by rw [e, hb]; rfl) (by rw [e, hb]; exact h)
/-- The sizes of the rows. -/
theorem infoSlot {l : List Nat} (h : l.length = 104) : (Try.prog.info? 51).map (·.size) = some (u8s l).size := by
  have e : (Try.prog.info? 51).map (·.size) = some 104 := by kernel_rfl
  rw [e, size_u8s, h]
theorem infoA32 {l : List Nat} (h : l.length = 32) : (Try.prog.info? 22).map (·.size) = some (u8s l).size := by
  have e : (Try.prog.info? 22).map (·.size) = some 32 := by kernel_rfl
  rw [e, size_u8s, h]
theorem infoKey {l : List Nat} (h : l.length = 32) : (Try.prog.info? 23).map (·.size) = some (u8s l).size := by
  have e : (Try.prog.info? 23).map (·.size) = some 32 := by kernel_rfl
  rw [e, size_u8s, h]
theorem zeroSlot {l : List Nat} (h : l.length = 104) : (u8s (List.replicate 104 0)).size = (u8s l).size := by rw [size_u8s, size_u8s, h]; simp
/-- A part of a row, read in a region that draws its order. -/
theorem yieldsIf_part {P : Program} {ops : Array Oper} {S : World → Prop} {op : Oper} {a : Act} (hw : Region.wanted op (yielded ops a.tmps) = true) {ty : TypeId} {x : Operand} (ho : op.op = .load ty x)
    {b o : Nat} (hx : a.eval x = .pointer (some ⟨b, o, none⟩)) (l : List Nat) {d : TypeDesc} (hu : P.underlying ty = some d) (hi : (P.info? ty).map (·.size) = some (u8s l).size) (hS : ∀ w, S w → w.rangeAt b o (u8l l)) (hd : d.isRow = true := by rfl) : YieldsIf P ops S op (.agg (u8s l)) a :=
  yieldsIf_load_mid hw ty x ho b o hx (u8l l) d hS hu hd (by rw [hi]; simp [u8s, u8l])
theorem wpList_load_part {P : Program} {ops : Array Oper} {rest : List Oper} {op : Oper} {a : Act} {w : World} {Q : Exit → Act → World → Prop} (hgd : op.guard = none) (ty : TypeId) (x : Operand) (ho : op.op = .load ty x)
    (b o : Nat) (hx : a.eval x = .pointer (some ⟨b, o, none⟩)) (l : List Nat) {d : TypeDesc} (hu : P.underlying ty = some d) (hi : (P.info? ty).map (·.size) = some (u8s l).size) (hc : w.rangeAt b o (u8l l)) (hd : d.isRow = true)
    (h : wpList P ops Q rest (a.put op.dst (.agg (u8s l))) w) : wpList P ops Q (op :: rest) a w :=
  wpList_load_mid hgd ty x ho b o hx (u8l l) d hc hu hd (by rw [hi]; simp [u8s, u8l]) h
/-- Bytes put into a row from o on. -/
def putL2 (L : List Nat) (o : Nat) (l : List Nat) : List Nat := L.take o ++ (l ++ L.drop (o + l.length))
theorem length_putL2 {L : List Nat} {o : Nat} {l : List Nat} (h : o + l.length ≤ L.length) : (putL2 L o l).length = L.length := by
  unfold putL2; simp; omega
theorem byt_putL2 {L : List Nat} {o : Nat} {l : List Nat} (h : o + l.length ≤ L.length) (j : Nat) : byt (putL2 L o l) j = putAt (byt L) o l j := by
  unfold putL2 putAt
  rw [byt_append]
  have e1 : (L.take o).length = o := by simp; omega
  rw [e1]
  by_cases h1 : j < o
  · rw [if_pos h1, if_neg (by omega)]
    simp [byt, List.getD, List.getElem?_take_of_lt h1]
  · rw [if_neg h1, byt_append]
    by_cases h2 : j - o < l.length
    · rw [if_pos h2, if_pos (by omega)]
    · rw [if_neg h2, if_neg (by omega)]
      simp only [byt, List.getD, List.getElem?_drop]
      rw [show o + l.length + (j - o - l.length) = j by omega]
theorem row_setCells {w : World} {b t o : Nat} {L l : List Nat} (h : RowB w b t L) (ho : o + l.length ≤ L.length) : RowB (w.setCells b o (u8l l)) b t (putL2 L o l) := by
  have hb : BlkAt w b t L.length L.length (byt L) :=
    ⟨⟨fun j => .int .u8 (byt L j : Int), ⟨u8s L, h, by simp [u8s], fun i hi => by simp [u8s, byt, List.getD, hi]⟩, fun j _ => rfl⟩, Nat.le_refl _⟩
  have hs := hb.setL o l
  obtain ⟨f, ⟨c, h1, h2, h3⟩, h4⟩ := hs.ex
  have e : c = u8s (putL2 L o l) := by
    apply Array.ext_getElem?
    intro i
    by_cases hi : i < L.length
    · have hi2 : i < (putL2 L o l).length := by rw [length_putL2 ho]; exact hi
      rw [h3 i hi, h4 i hi, ← byt_putL2 ho]
      simp [u8s, byt, List.getD, hi2]
    · rw [Array.getElem?_eq_none (by omega), Array.getElem?_eq_none (by rw [size_u8s, length_putL2 ho]; omega)]
  unfold RowB
  rw [← e]; exact h1
theorem row_there {w : World} {b t o n : Nat} {L : List Nat} (h : RowB w b t L) (ho : o + n ≤ L.length) : w.there b o n := fun j hj => by
  have h2 : L[o + j]? = some (byt L (o + j)) := by simp [byt, List.getD, show o + j < L.length by omega]
  exact ⟨by rw [h.cell h2]; rfl, h.frozen _⟩
/-- The cells of a text. -/
theorem text_src {w : World} {v : Value} {t : List Nat} (h : TextAt w v t) (h0 : 0 < t.length) : ∃ sb so c, v = .slice (some ⟨sb, so, none⟩) t.length c ∧ ∀ j u, (u8l t)[j]? = some u → w.cell? (Addr.add ⟨sb, so, none⟩ j) = some u := by
  obtain ⟨ao, cap, rfl, _, _, hb⟩ := h.ex
  obtain ⟨_, sb, so, rfl, _⟩ := hb 0 h0
  refine ⟨sb, so, cap, rfl, fun j u hu => ?_⟩
  obtain ⟨ad, e1, e2⟩ := hb.news j u hu
  injection e1 with e1
  rw [e1]; exact e2
/-- A part of a row of bytes. -/
theorem row_range {w : World} {b t o : Nat} {L l : List Nat} (h : RowB w b t L) (hl : (L.drop o).take l.length = l) (ho : o + l.length ≤ L.length) : w.rangeAt b o (u8l l) := fun j v hv => by
  have hj : j < l.length := by
    have := (List.getElem?_eq_some_iff.1 hv).1
    simpa [u8l] using this
  have e : l[j]? = L[o + j]? := by
    conv => lhs; rw [← hl]
    rw [List.getElem?_take_of_lt hj, List.getElem?_drop]
  have h2 : L[o + j]? = some (byt L (o + j)) := by simp [byt, List.getD, show o + j < L.length by omega]
  have h3 := h.cell h2
  rw [h3]
  rw [h2] at e
  simp only [u8l, List.getElem?_map, e] at hv
  exact hv
theorem row_part2 {w : World} {b t o n : Nat} {L l : List Nat} (h : RowB w b t L) (hl : (L.drop o).take n = l) (ho : o + n ≤ L.length) (hs : ∀ x ∈ L, x < 256) : TextAt w (.slice (some ⟨b, o, none⟩) n n) l := by
  have ll : l.length = n := by rw [← hl]; simp; omega
  refine ⟨some ⟨b, o, none⟩, n, by rw [ll], by rw [ll]; exact Nat.le_refl _, fun e => by simp at e, fun i hi => ?_⟩
  rw [ll] at hi
  have e : l[i]? = L[o + i]? := by rw [← hl, List.getElem?_take_of_lt hi, List.getElem?_drop]
  have h2 : L[o + i]? = some (byt L (o + i)) := by simp [byt, List.getD, show o + i < L.length by omega]
  have e2 : byt l i = byt L (o + i) := by unfold byt; rw [List.getD_eq_getElem?_getD, List.getD_eq_getElem?_getD, e]
  rw [e2]
  exact ⟨byt_lt hs _, b, o, rfl, h.cell h2⟩
/-- A row and a value handed back. -/
theorem ret_row_tmp {P : Program} {fn : Func} {R : Ending → World → Prop} {a : Act} {w : World} {p u : Tmp} {ty : TypeId} (hr : fn.results = #[.cell p ty, .tmp u]) (hd : a.defers = []) (g : Nat) (t : TypeId) (cs : Array Value) (fr : Nat × Nat) (d : TypeDesc) (v : Value)
    (hp : a.tmps.getD p undef = .pointer (some ⟨g, 0, none⟩)) (hv : a.tmps.getD u undef = v) (hg : w.heap[g]? = some (.cells cs t fr)) (hu : P.underlying ty = some d) (hrow : (match d with | .struct _ | .array _ _ => true | _ => false) = true)
    (hi : (P.info? ty).map (·.size) = some cs.size) (hR : R (.returned (.tuple #[.agg cs, v])) w) : bodyPost P fn R .ret a w := by
  refine bodyPost_ret ?_ hd hR
  rw [results_cell_tmp hr, hp, hv]
  simp [asAddr, run_loadVar_row w g t ty cs fr d hg hu hrow hi]
theorem ret_row_row {P : Program} {fn : Func} {R : Ending → World → Prop} {a : Act} {w : World} {p u : Tmp} {ty : TypeId} (hr : fn.results = #[.cell p ty, .cell u ty]) (hd : a.defers = []) (g h : Nat) (t t2 : TypeId) (cs cs2 : Array Value) (fr fr2 : Nat × Nat) (d : TypeDesc)
    (hp : a.tmps.getD p undef = .pointer (some ⟨g, 0, none⟩)) (hv : a.tmps.getD u undef = .pointer (some ⟨h, 0, none⟩)) (hg : w.heap[g]? = some (.cells cs t fr)) (hh : w.heap[h]? = some (.cells cs2 t2 fr2)) (hu : P.underlying ty = some d) (hrow : (match d with | .struct _ | .array _ _ => true | _ => false) = true)
    (hi : (P.info? ty).map (·.size) = some cs.size) (hi2 : (P.info? ty).map (·.size) = some cs2.size) (hR : R (.returned (.tuple #[.agg cs, .agg cs2])) w) : bodyPost P fn R .ret a w := by
  refine bodyPost_ret ?_ hd hR
  have hp' : a.tmps[p]?.getD undef = .pointer (some ⟨g, 0, none⟩) := by simpa using hp
  have hv' : a.tmps[u]?.getD undef = .pointer (some ⟨h, 0, none⟩) := by simpa using hv
  simp [results, hr, hp', hv', asAddr, run_loadVar_row w g t ty cs fr d hg hu hrow hi, run_loadVar_row w h t2 ty cs2 fr2 d hh hu hrow hi2]
end Go.Proofs.Ytecmagenlbnchaa
