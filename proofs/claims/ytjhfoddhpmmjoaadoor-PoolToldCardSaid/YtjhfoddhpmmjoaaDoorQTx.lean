/-
  Texts: slices of bytes and rows of them: read, joined by 'append', cut, as strings. Condition: not too long.
-/
import Derived.Test.YtjhfoddhpmmjoaaDoorProg
import Derived.Test.YtjhfoddhpmmjoaaDoorQRowB
import Derived.Test.YtjhfoddhpmmjoaaDoorQOwn
import Derived.Laws.BytesArg
import Derived.Laws.MakeOwn
import Derived.Deep.MidRow
import Derived.Deep.OwnRows
import Derived.Deep.RegionHeldLaw
namespace Go.Proofs.YtjhfoddhpmmjoaaDoor
set_option maxRecDepth 100000
open Go.RowKit

theorem byt_lt {buf : List Nat} (h : ∀ x ∈ buf, x < 256) (i : Nat) : byt buf i < 256 := by
  unfold byt
  by_cases hi : i < buf.length
  · have : buf.getD i 0 = buf[i] := by simp [List.getD, hi]
    rw [this]; exact h _ (List.getElem_mem hi)
  · simp [List.getD, Nat.le_of_not_lt hi]
theorem byt_append (t d : List Nat) (i : Nat) : byt (t ++ d) i = if i < t.length then byt t i else byt d (i - t.length) := by
  unfold byt
  by_cases h : i < t.length
  · rw [if_pos h, List.getD, List.getD, List.getElem?_append_left h]
  · rw [if_neg h, List.getD, List.getD, List.getElem?_append_right (by omega)]
/-- The first len values of a function. -/
def bytesOf (s : Nat → Nat) (len : Nat) : List Nat := (List.range len).map s
@[simp] theorem length_bytesOf (s : Nat → Nat) (len : Nat) : (bytesOf s len).length = len := by simp [bytesOf]
theorem byt_bytesOf (s : Nat → Nat) {len i : Nat} (h : i < len) : byt (bytesOf s len) i = s i := by simp [byt, bytesOf, List.getD, h]
theorem bytesOf_add (s : Nat → Nat) (a b : Nat) : bytesOf s (a + b) = bytesOf s a ++ bytesOf (fun i => s (a + i)) b := by
  simp [bytesOf, List.range_add, Function.comp_def]
theorem bytesOf_zero (s : Nat → Nat) : bytesOf s 0 = [] := rfl
theorem bytesOf_congr {s s' : Nat → Nat} {len : Nat} (h : ∀ i, i < len → s i = s' i) : bytesOf s len = bytesOf s' len :=
  List.map_congr_left fun i hi => h i (List.mem_range.1 hi)
theorem bytesOf_lt {s : Nat → Nat} {len : Nat} (h : ∀ i, i < len → s i < 256) : ∀ x ∈ bytesOf s len, x < 256 := by
  intro x hx
  obtain ⟨i, hi, rfl⟩ := List.mem_map.1 hx
  exact h i (List.mem_range.1 hi)
theorem bytesOf_byt (t : List Nat) : bytesOf (byt t) t.length = t := by
  apply List.ext_getElem
  · simp
  · intro i h1 h2
    simp [bytesOf, byt, List.getD, h2]
/-- A number's bytes, n of them. -/
def beBytes (n v : Nat) : List Nat := (List.range n).map fun i => v / 256 ^ (n - 1 - i) % 256
@[simp] theorem length_beBytes (n v : Nat) : (beBytes n v).length = n := by simp [beBytes]
theorem beBytes_lt (n v : Nat) : ∀ x ∈ beBytes n v, x < 256 := by
  intro x hx
  obtain ⟨i, _, rfl⟩ := List.mem_map.1 hx
  exact Nat.mod_lt _ (by decide)
/-- A slice of bytes in a world: byte i is 's i'. -/
def BytesAt (w : World) (ao : Option Addr) (len : Nat) (s : Nat → Nat) : Prop :=
  ∀ i, i < len → s i < 256 ∧ ∃ ob oo, ao = some ⟨ob, oo, none⟩ ∧ w.cell? ⟨ob, oo + i, none⟩ = some (.int .u8 (s i))
theorem BytesAt.below {w w' : World} {ao : Option Addr} {len : Nat} {s : Nat → Nat} (h : BytesAt w ao len s) (hB : Below w.heap.size w w') : BytesAt w' ao len s := fun i hi => by
  obtain ⟨h0, ob, oo, h1, h2⟩ := h i hi
  exact ⟨h0, ob, oo, h1, (hB.cell (block_lt_of_cell h2)).trans h2⟩
def u8l (l : List Nat) : List Value := l.map fun (n : Nat) => Value.int .u8 (n : Int)
theorem src_bytes {w : World} {ob oo m : Nat} {d : List Nat} (h : ∀ i, i < m → w.cell? ⟨ob, oo + i, none⟩ = some (.int .u8 (byt d i))) (hd : d.length = m) : ∀ j v, (u8l d)[j]? = some v → w.cell? (Addr.add ⟨ob, oo, none⟩ j) = some v := by
  intro j v hv
  have hj : j < m := by
    have := (List.getElem?_eq_some_iff.1 hv).1
    simp only [u8l, List.length_map] at this; omega
  rw [Addr.add_lit, h j hj, ← hv]
  simp [u8l, byt, List.getD, show j < d.length by omega]
theorem u8l_one (l : List Nat) : ∀ v ∈ u8l l, v.oneCell' = true := by
  intro v hv
  obtain ⟨x, _, rfl⟩ := List.mem_map.1 hv
  rfl
/-- A slice of bytes that holds text t. -/
structure TextAt (w : World) (v : Value) (t : List Nat) : Prop where
  ex : ∃ ao cap, v = .slice ao t.length cap ∧ t.length ≤ cap ∧ (ao = none → cap = 0) ∧ BytesAt w ao t.length (byt t)
theorem TextAt.below {w w' : World} {v : Value} {t : List Nat} (h : TextAt w v t) (hB : Below w.heap.size w w') : TextAt w' v t := by
  obtain ⟨ao, cap, e, h1, h2, h3⟩ := h.ex
  exact ⟨ao, cap, e, h1, h2, h3.below hB⟩
theorem TextAt.small {w : World} {v : Value} {t : List Nat} (h : TextAt w v t) : ∀ x ∈ t, x < 256 := by
  obtain ⟨ao, cap, e, h1, h2, h3⟩ := h.ex
  intro x hx
  obtain ⟨i, hi, rfl⟩ := List.mem_iff_getElem.1 hx
  have := (h3 i hi).1
  simpa [byt, List.getD, hi] using this
theorem BytesAt.news {w : World} {ao : Option Addr} {t : List Nat} (h : BytesAt w ao t.length (byt t)) : ∀ j u, (u8l t)[j]? = some u → ∃ ad, ao = some ad ∧ w.cell? (ad.add j) = some u := by
  intro j u hu
  have hj : j < t.length := by
    have := (List.getElem?_eq_some_iff.1 hu).1
    simpa [u8l] using this
  obtain ⟨_, ob, oo, e, hc⟩ := h j hj
  refine ⟨_, e, ?_⟩
  rw [Addr.add_lit, hc, ← hu]
  simp [u8l, byt, List.getD, hj]
theorem Own.text {w : World} {base : Nat} {v : Value} {t : List Nat} (h : Own w base 5 v (u8l t)) (hs : ∀ x ∈ t, x < 256) : TextAt w v t := by
  obtain ⟨ao, cap, e, h1, _, h2, _, h4⟩ := h.form
  have hl : (u8l t).length = t.length := by simp [u8l]
  rw [hl] at e h1 h2
  refine ⟨ao, cap, e, h1, fun hn => (h2 hn).2, fun i hi => ?_⟩
  obtain ⟨g, e2, hc, _⟩ := h4 i (.int .u8 (byt t i : Nat)) (by simp [u8l, byt, List.getD, hi])
  exact ⟨byt_lt hs i, g, 0, e2, by rw [Nat.zero_add]; exact hc⟩
theorem infoU8 : (Tryd.prog.info? 5).map (fun i => (i.zero, i.size, i.bytes)) = some (some (.int .u8 0), 1, 1) := by kernel_rfl
theorem u8l_append (a b : List Nat) : u8l (a ++ b) = u8l a ++ u8l b := by simp [u8l]
/-- A slice of texts in a world. -/
def TextsAt (w : World) (ao : Option Addr) (ls : List (List Nat)) : Prop :=
  ∀ i, i < ls.length → ∃ ob oo, ao = some ⟨ob, oo, none⟩ ∧ ∃ ai ci, w.cell? ⟨ob, oo + i, none⟩ = some (.slice ai (ls.getD i []).length ci) ∧ (ls.getD i []).length ≤ ci ∧ BytesAt w ai (ls.getD i []).length (byt (ls.getD i [])) ∧ (ai = none → ci = 0)
theorem TextsAt.below {w w' : World} {ao : Option Addr} {ls : List (List Nat)} (h : TextsAt w ao ls) (hB : Below w.heap.size w w') : TextsAt w' ao ls := fun i hi => by
  obtain ⟨ob, oo, e, ai, ci, h1, h2, h3, h4⟩ := h i hi
  exact ⟨ob, oo, e, ai, ci, (hB.cell (block_lt_of_cell h1)).trans h1, h2, h3.below hB, h4⟩
/-- Bytes of w lie in blocks of w. -/
theorem BytesAt.out {w : World} {ao : Option Addr} {len b : Nat} {s : Nat → Nat} (h : BytesAt w ao len s) (hb : w.heap.size ≤ b) (h0 : 0 < len) (ob oo : Nat) (e : ao = some ⟨ob, oo, none⟩) : ob ≠ b := by
  obtain ⟨_, ob', oo', e', hc⟩ := h 0 h0
  rw [e] at e'
  cases e'
  have := block_lt_of_cell hc
  simp only at this
  omega
def joinTo (ls : List (List Nat)) (k : Nat) : List Nat := (ls.take k).flatten
theorem joinTo_succ (ls : List (List Nat)) {k : Nat} (h : k < ls.length) : joinTo ls (k + 1) = joinTo ls k ++ ls.getD k [] := by
  unfold joinTo
  rw [List.take_add_one, List.flatten_append]
  congr 1
  simp [List.getD, h]
theorem joinTo_full (ls : List (List Nat)) : joinTo ls ls.length = ls.flatten := by simp [joinTo]
theorem joinTo_le (ls : List (List Nat)) (k : Nat) : (joinTo ls k).length ≤ ls.flatten.length := by
  have : ls.flatten = joinTo ls k ++ (ls.drop k).flatten := by
    unfold joinTo; rw [← List.flatten_append, List.take_append_drop]
  rw [this]; simp
/-- A text's string. -/
def strOf (t : List Nat) : ByteArray := strOfNums (t.map fun (x : Nat) => (x : Int))
theorem strOf_inj {a b : List Nat} (ha : ∀ x ∈ a, x < 256) (hb : ∀ x ∈ b, x < 256) (h : strOf a = strOf b) : a = b := by
  have h2 : (strOf a).data.toList = (strOf b).data.toList := by rw [h]
  unfold strOf at h2
  rw [strOfNums_data, strOfNums_data, List.map_map, List.map_map] at h2
  have e : ∀ l : List Nat, (∀ x ∈ l, x < 256) → (l.map ((fun n : Int => UInt8.ofNat n.toNat) ∘ fun (x : Nat) => (x : Int))).map UInt8.toNat = l := fun l hl => by
    rw [List.map_map]
    conv => rhs; rw [← List.map_id l]
    refine List.map_congr_left fun x hx => ?_
    have := hl x hx
    simp [Nat.mod_eq_of_lt this]
  rw [← e a ha, ← e b hb, h2]
theorem strOf_eq {a b : List Nat} (ha : ∀ x ∈ a, x < 256) (hb : ∀ x ∈ b, x < 256) : (strOf a = strOf b) = (a = b) :=
  propext ⟨strOf_inj ha hb, fun e => by rw [e]⟩
theorem run_str {w : World} {v : Value} {t : List Nat} (h : TextAt w v t) : (convert 85 9 v).run Tryd.prog w = .ok (.string (strOf t)) w := by
  obtain ⟨ao, cap, rfl, h1, h2, h3⟩ := h.ex
  have nil : t.length = 0 → strOf t = ByteArray.empty := fun e => by
    rw [List.length_eq_zero_iff.1 e]; rfl
  cases ao with
  | none =>
    have h0 : t.length = 0 := by have := h2 rfl; omega
    rw [run_convert_bytes_nil w 85 5 Tryd.underlying85 Tryd.underlying5 _ _ 9 Tryd.underlying9, nil h0]
  | some ad =>
    by_cases h0 : t.length = 0
    · rw [run_convert_bytes_string w 85 9 5 _ _ _ Tryd.underlying85 Tryd.underlying5 Tryd.underlying9, run_bytesToString w ad t.length cap [] (by rw [h0]; exact run_loadCells_list w ad [] (fun j v hj => by simp at hj)), nil h0]
      rfl
    · obtain ⟨_, ob, oo, e, _⟩ := h3 0 (by omega)
      cases e
      refine run_convert_bytes_arg w 85 5 Tryd.underlying85 Tryd.underlying5 ob oo t.length cap (t.map fun (x : Nat) => (x : Int)) (by simp) (fun i hi => ?_) 9 Tryd.underlying9
      obtain ⟨_, ob', oo', e, hc⟩ := h3 i hi
      cases e
      rw [hc]
      simp [byt, List.getD, hi]
theorem wp_str {w : World} {o : Oper} {a : Act} {K : Act → World → Prop} {Q : Exit → Act → World → Prop} {x : Operand} (ho : o.op = .convert 85 9 x)
    {v : Value} (hx : a.eval x = v) {t : List Nat} (h : TextAt w v t) (hK : K (a.put o.dst (.string (strOf t))) w) : o.wp Tryd.prog a w K Q := by
  unfold Oper.wp execOp
  simp only [ho, hx, Sem.run_bind, Sem.run_pure, run_str h, Result.andThen_ok]
  exact hK
/-- In a region that draws its order: a text as a string, under an S that gives the text. -/
theorem yieldsIf_str {ops : Array Oper} {S : World → Prop} {o : Oper} {a : Act} (hw : Region.wanted o (yielded ops a.tmps) = true) {x : Operand} (ho : o.op = .convert 85 9 x)
    {v : Value} (hx : a.eval x = v) {t : List Nat} (hS : ∀ w, S w → TextAt w v t) : YieldsIf Tryd.prog ops S o (.string (strOf t)) a :=
  .inl ⟨hw, fun w hw' => by
    unfold execOp
    simp only [ho, hx, Sem.run_bind, Sem.run_pure, run_str (hS w hw'), Result.andThen_ok]⟩
theorem infoU8' : ∃ i, Tryd.prog.info? 5 = some i ∧ i.zero = some (.int .u8 0) ∧ i.size = 1 ∧ i.bytes = 1 := by
  have h := infoU8
  cases hq : Tryd.prog.info? 5 with
  | none => simp [hq] at h
  | some i => simp [hq] at h; exact ⟨i, rfl, h.1, h.2.1, h.2.2⟩
/-- 'append' of a text to one that is the call's own (or nil): at the operation. -/
theorem wp_append_t {w : World} {o : Oper} {a : Act} {K : Act → World → Prop} {Q : Exit → Act → World → Prop} (s x : Operand)
    (ho : o.op = .call { callee := .builtin .append, args := #[s, x], argTypes := #[85, 85] })
    (base : Nat) (w0 : World) (v : Value) (t : List Nat) (hs : a.eval s = v) (hown : Own w base 5 v (u8l t)) (hB : Below base w0 w) (hbase : base ≤ w.heap.size)
    (vx : Value) (u : List Nat) (hx : a.eval x = vx) (hu : TextAt w vx u) (hlen : t.length + u.length ≤ 1000000000)
    (h : ∀ v' w', Hid (Own w' base 5 v' (u8l (t ++ u))) → Hid (Below base w0 w') → Hid (w.grownBy w' v.ownBlock) → Hid (v'.ownBlock = v.ownBlock ∨ v'.ownBlock = some w.heap.size) → K (a.put o.dst v') w') : o.wp Tryd.prog a w K Q := by
  obtain ⟨i, hi, hz, hsz, hb⟩ := infoU8'
  obtain ⟨ao, cap, rfl, h1, h2, h3⟩ := hu.ex
  have ht : Tryd.prog.underlying 85 = some (.slice 5) := Tryd.underlying85
  have hl : (u8l t).length + u.length ≤ maxLen := by simp only [maxLen, u8l, List.length_map]; omega
  have hbb : ((u8l t).length + u.length) * 1 ≤ 140737488355328 := by simp only [u8l, List.length_map]; omega
  have fin : ∀ v' w', w'.ownsRow base 5 1 v' ((u8l t).length + u.length) (u8l t ++ u8l u) → w.grownBy w' v.ownBlock → (v'.ownBlock = v.ownBlock ∨ v'.ownBlock = some w.heap.size) → K (a.put o.dst v') w' := fun v' w' g2 g3 g5 => by
    refine h v' w' ?_ ?_ g3 g5
    · show w'.ownsRow base 5 1 v' (u8l (t ++ u)).length (u8l (t ++ u))
      rw [u8l_append, List.length_append, show (u8l u).length = u.length by simp [u8l]]; exact g2
    · refine hB.trans ⟨g3.os, g3.tape, g3.output, g3.size, fun k hk => g3.block k (by omega) fun eq => ?_⟩
      have := (hown.lt k eq.symm).1
      omega
  cases ao with
  | some ad =>
    obtain ⟨v', w', hr, g2, g3, _, g5⟩ := run_append_own_at (P := Tryd.prog) w base 85 o.type 5 i (.int .u8 0) 1 1 ht hi hz hsz hb rfl (by decide) v (u8l t).length (u8l t) hown ad u.length cap (u8l u) (by simp [u8l])
      (fun j y hj => by
        obtain ⟨ad', e1, e2⟩ := h3.news j y hj
        cases e1; exact e2) (u8l_one _) hl hbb hbase
    unfold Oper.wp execOp
    simp only [ho, resolve, invoke, builtin, Sem.run_bind, Sem.run_pure, Result.andThen_ok, List.map_toArray, List.map_cons, List.map_nil, hs, hx, hr]
    exact fin v' w' g2 g3 g5
  | none =>
    have hc := h2 rfl
    subst hc
    have h0 : u.length = 0 := by omega
    obtain rfl : u = [] := List.eq_nil_of_length_eq_zero h0
    have hr := run_append_owned_none (P := Tryd.prog) (w := w) base 85 o.type 5 i 1 ht hi v (u8l t).length (u8l t) hown
    unfold Oper.wp execOp
    simp only [ho, resolve, invoke, builtin, Sem.run_bind, Sem.run_pure, Result.andThen_ok, List.map_toArray, List.map_cons, List.map_nil, hs, hx, List.length_nil, hr]
    refine fin v w (by rw [List.length_nil, Nat.add_zero, show u8l [] = [] from rfl, List.append_nil]; exact hown) ⟨rfl, rfl, rfl, Nat.le_refl _, fun _ _ _ => rfl⟩ (.inl rfl)
theorem wpList_append_t {w : World} {ops : Array Oper} {rest : List Oper} {o : Oper} {a : Act} {Q : Exit → Act → World → Prop} (hw : Region.wanted o (yielded ops a.tmps) = true) (s x : Operand)
    (ho : o.op = .call { callee := .builtin .append, args := #[s, x], argTypes := #[85, 85] })
    (base : Nat) (w0 : World) (v : Value) (t : List Nat) (hs : a.eval s = v) (hown : Own w base 5 v (u8l t)) (hB : Below base w0 w) (hbase : base ≤ w.heap.size)
    (vx : Value) (u : List Nat) (hx : a.eval x = vx) (hu : TextAt w vx u) (hlen : t.length + u.length ≤ 1000000000)
    (h : ∀ v' w', Hid (Own w' base 5 v' (u8l (t ++ u))) → Hid (Below base w0 w') → Hid (w.grownBy w' v.ownBlock) → Hid (v'.ownBlock = v.ownBlock ∨ v'.ownBlock = some w.heap.size) → wpList Tryd.prog ops Q rest (a.put o.dst v') w') : wpList Tryd.prog ops Q (o :: rest) a w :=
  wpList_step fun _ hK => by rw [if_pos hw]; exact wp_append_t s x ho base w0 v t hs hown hB hbase vx u hx hu hlen fun v' w' g1 g2 g3 g4 => hK _ _ (h v' w' g1 g2 g3 g4)
/-- The same, only what is mostly asked. -/
theorem wpList_append_s {w : World} {ops : Array Oper} {rest : List Oper} {o : Oper} {a : Act} {Q : Exit → Act → World → Prop} (hw : Region.wanted o (yielded ops a.tmps) = true) (s x : Operand)
    (ho : o.op = .call { callee := .builtin .append, args := #[s, x], argTypes := #[85, 85] })
    (base : Nat) (w0 : World) (v : Value) (t : List Nat) (hs : a.eval s = v) (hown : Own w base 5 v (u8l t)) (hB : Below base w0 w) (hbase : base ≤ w.heap.size)
    (vx : Value) (u : List Nat) (hx : a.eval x = vx) (hu : TextAt w vx u) (hlen : t.length + u.length ≤ 1000000000)
    (h : ∀ v' w', Hid (Own w' base 5 v' (u8l (t ++ u))) → Hid (Below base w0 w') → wpList Tryd.prog ops Q rest (a.put o.dst v') w') : wpList Tryd.prog ops Q (o :: rest) a w :=
  wpList_append_t hw s x ho base w0 v t hs hown hB hbase vx u hx hu hlen fun v' w' g1 g2 _ _ => h v' w' g1 g2
theorem step_append_t {w : World} {ops : Array Oper} {o : Oper} {a : Act} {K : Act → World → Prop} {Q : Exit → Act → World → Prop} {E : Prop} (hw : Region.wanted o (yielded ops a.tmps) = true) (s x : Operand)
    (ho : o.op = .call { callee := .builtin .append, args := #[s, x], argTypes := #[85, 85] })
    (base : Nat) (w0 : World) (v : Value) (t : List Nat) (hs : a.eval s = v) (hown : Own w base 5 v (u8l t)) (hB : Below base w0 w) (hbase : base ≤ w.heap.size)
    (vx : Value) (u : List Nat) (hx : a.eval x = vx) (hu : TextAt w vx u) (hlen : t.length + u.length ≤ 1000000000)
    (h : ∀ v' w', Hid (Own w' base 5 v' (u8l (t ++ u))) → Hid (Below base w0 w') → Hid (w.grownBy w' v.ownBlock) → Hid (v'.ownBlock = v.ownBlock ∨ v'.ownBlock = some w.heap.size) → K (a.put o.dst v') w') : if Region.wanted o (yielded ops a.tmps) = true then Oper.wp Tryd.prog o a w K Q else E := by
  rw [if_pos hw]; exact wp_append_t s x ho base w0 v t hs hown hB hbase vx u hx hu hlen h
/-- Texts whose slices lie in a row. -/
theorem texts_of_row {w : World} {g : Nat} {vs : List Value} {ls : List (List Nat)} {ty : TypeId} {fr : Nat × Nat} (h : w.heap[g]? = some (.cells vs.toArray ty fr)) (hl : vs.length = ls.length)
    (hv : ∀ (i : Nat) (v : Value) (t : List Nat), vs[i]? = some v → ls[i]? = some t → TextAt w v t) : TextsAt w (some ⟨g, 0, none⟩) ls := fun i hi => by
  have e1 : vs[i]? = some vs[i] := List.getElem?_eq_getElem (by omega)
  have e2 : ls[i]? = some ls[i] := List.getElem?_eq_getElem hi
  obtain ⟨ao, cap, e, h1, h2, h3⟩ := (hv i _ _ e1 e2).ex
  have e3 : ls.getD i [] = ls[i] := by simp [List.getD, hi]
  rw [e3]
  refine ⟨g, 0, rfl, ao, cap, ?_, h1, h3, h2⟩
  rw [Nat.zero_add, cell_of_row _ _ _ _ _ _ h]
  simp only [List.getElem?_toArray, e1, e]
theorem TextAt.nil (w : World) : TextAt w (.slice none 0 0) [] := ⟨none, 0, rfl, Nat.le_refl _, fun _ => rfl, fun i hi => by simp at hi⟩
theorem TextAt.drew {w : World} {v : Value} {t : List Nat} (h : TextAt w v t) : TextAt w.drew v t := h.below (Below.refl _ _).drew
theorem TextAt.alloc {w : World} {v : Value} {t : List Nat} (h : TextAt w v t) (o : Obj) : TextAt (w.alloc o) v t := h.below ((Below.refl _ _).alloc (Nat.le_refl _) _)
theorem TextAt.low {w w' : World} {B : Nat} {v : Value} {t : List Nat} (h : TextAt w v t) (hB : Below B w w') (hs : w.heap.size ≤ B) : TextAt w' v t := h.below (hB.mono hs)
/-- An empty slice just made is the call's own. -/
theorem Own.empty {w : World} (base : Nat) (hb : base ≤ w.heap.size) : Own (w.alloc (.cells #[] 5)) base 5 (.slice (some ⟨w.heap.size, 0, none⟩) 0 0) (u8l []) :=
  Own.made (xs := []) (heap_alloc_new _ _) hb (by simp [maxLen])
/-- Where a slice lies that was cut at lo. -/
def cutA (ao : Option Addr) (cap lo : Nat) : Option Addr := if cap = lo then ao else ao.map (·.add lo)
theorem cutA_zero (ao : Option Addr) (cap : Nat) : cutA ao cap 0 = ao := by
  unfold cutA
  split
  · rfl
  · cases ao with
    | none => rfl
    | some a => simp [Addr.add]
theorem cutA_some {ob oo cap lo : Nat} (h : lo < cap) : cutA (some ⟨ob, oo, none⟩) cap lo = some ⟨ob, oo + lo, none⟩ := by
  unfold cutA
  rw [if_neg (by omega), Option.map_some, Addr.add_lit]
theorem run_size {P : Program} {e : TypeId} (hs : (P.info? e).map (·.size) = some 1) (x : World) : (sizeOf e).run P x = .ok 1 x := by
  cases hq : P.info? e with
  | none => simp [hq] at hs
  | some i => simp [hq] at hs; simp [sizeOf, typeInfo, hq, hs]
theorem elem_of {P : Program} {T e : TypeId} (hu : P.underlying T = some (.slice e)) : P.elem T = e := by simp [Program.elem, hu]
section
variable {P : Program} {T e : TypeId}
theorem run_cut_lh (hu : P.underlying T = some (.slice e)) (hs : (P.info? e).map (·.size) = some 1) (ao : Option Addr) (len cap lo hi : Nat) (h1 : lo ≤ hi) (h2 : hi ≤ cap) (l h : Int) (el : l = lo) (eh : h = hi) :
    ∀ x, (Instr.slice T (.slice ao len cap) (some (.int .i64 l)) (some (.int .i64 h)) none).run P x = .ok (.slice (cutA ao cap lo) (hi - lo) (cap - lo)) x := fun x => by
  subst el eh
  rw [run_slice_lh (P := P) x T ao len cap (by rw [elem_of hu]; exact hu) .i64 .i64 lo hi (by omega) (by omega) (by omega), elem_of hu, run_size hs]
  simp only [Result.andThen, sliced, Int.toNat_natCast, Nat.mul_one]
  rfl
theorem run_cut_l (hu : P.underlying T = some (.slice e)) (hs : (P.info? e).map (·.size) = some 1) (ao : Option Addr) (len cap lo : Nat) (h1 : lo ≤ len) (l : Int) (el : l = lo) :
    ∀ x, (Instr.slice T (.slice ao len cap) (some (.int .i64 l)) none none).run P x = .ok (.slice (cutA ao cap lo) (len - lo) (cap - lo)) x := fun x => by
  subst el
  rw [run_slice_l (P := P) x T ao len cap (by rw [elem_of hu]; exact hu) .i64 lo (by omega) (by omega), elem_of hu, run_size hs]
  simp only [Result.andThen, sliced, Int.toNat_natCast, Nat.mul_one]
  rfl
theorem run_cut_h (hu : P.underlying T = some (.slice e)) (hs : (P.info? e).map (·.size) = some 1) (ao : Option Addr) (len cap hi : Nat) (h2 : hi ≤ cap) (h : Int) (eh : h = hi) :
    ∀ x, (Instr.slice T (.slice ao len cap) none (some (.int .i64 h)) none).run P x = .ok (.slice ao hi cap) x := fun x => by
  subst eh
  rw [run_slice_h (P := P) x T ao len cap (by rw [elem_of hu]; exact hu) .i64 hi (by omega) (by omega), elem_of hu, run_size hs]
  simp only [Result.andThen, sliced, Int.toNat_natCast, Nat.mul_one, Nat.sub_zero]
  congr 2
  exact cutA_zero ao cap
end
theorem arr_of {P : Program} {T e : TypeId} {n : Nat} (hu : P.underlying T = some (.array n e)) : P.arrayLen T = n ∧ P.elem T = e := by simp [Program.arrayLen, Program.elem, hu]
/-- 'x[:hi]', 'x[lo:]', 'x[lo:hi]' of an array. -/
theorem run_arr_h {P : Program} {T e : TypeId} {n : Nat} (hu : P.underlying T = some (.array n e)) (hs : (P.info? e).map (·.size) = some 1) (b hi : Nat) (h2 : hi ≤ n) (h : Int) (eh : h = hi) (_h0 : 0 < n) :
    ∀ x, (Instr.sliceAt T (.pointer (some ⟨b, 0, none⟩)) none (some (.int .i64 h)) none).run P x = .ok (.slice (some ⟨b, 0, none⟩) hi n) x := fun x => by
  subst eh
  obtain ⟨q1, q2⟩ := arr_of hu
  rw [run_sliceAt_array_h (P := P) x T _ (by rw [q1, q2]; exact hu) .i64 hi (by omega) (by rw [q1]; omega), q1, q2, run_size hs]
  simp only [Result.andThen, slicedAt, Int.toNat_natCast, Nat.mul_one, Nat.sub_zero]
  congr 3
  split
  · rfl
  · simp [Addr.add]
/-- A text cut is a text. -/
theorem TextAt.cut {w : World} {ao : Option Addr} {t : List Nat} {cap lo hi : Nat} (h : TextAt w (.slice ao t.length cap) t) (h1 : lo ≤ hi) (h2 : hi ≤ t.length) : TextAt w (.slice (cutA ao cap lo) (hi - lo) (cap - lo)) ((t.drop lo).take (hi - lo)) := by
  obtain ⟨ao', cap', e, g1, g2, g3⟩ := h.ex
  cases e
  have hl : ((t.drop lo).take (hi - lo)).length = hi - lo := by simp; omega
  refine ⟨_, cap - lo, by rw [hl], by omega, fun e => ?_, fun i hi' => ?_⟩
  · unfold cutA at e
    split at e
    · omega
    · have : ao = none := by cases ao <;> simp_all
      have := g2 this
      omega
  · rw [hl] at hi'
    obtain ⟨q1, ob, oo, rfl, q2⟩ := g3 (lo + i) (by omega)
    have eb : byt ((t.drop lo).take (hi - lo)) i = byt t (lo + i) := by
      simp only [byt, List.getD]
      rw [List.getElem?_take, if_pos (by omega), List.getElem?_drop]
    rw [eb]
    exact ⟨q1, ob, oo + lo, cutA_some (by omega), by rw [Nat.add_assoc]; exact q2⟩
theorem TextAt.cutLo {w : World} {ao : Option Addr} {t : List Nat} {cap lo : Nat} (h : TextAt w (.slice ao t.length cap) t) (h1 : lo ≤ t.length) : TextAt w (.slice (cutA ao cap lo) (t.length - lo) (cap - lo)) (t.drop lo) := by
  have := h.cut h1 (Nat.le_refl _)
  rwa [List.take_of_length_le (by simp)] at this
theorem TextAt.cutHi {w : World} {ao : Option Addr} {t : List Nat} {cap hi : Nat} (h : TextAt w (.slice ao t.length cap) t) (h2 : hi ≤ t.length) : TextAt w (.slice ao hi cap) (t.take hi) := by
  have := h.cut (Nat.zero_le hi) h2
  rwa [cutA_zero, List.drop_zero, Nat.sub_zero, Nat.sub_zero] at this
/-- A row of texts, its first ones. -/
theorem TextsAt.take {w : World} {ao : Option Addr} {ls : List (List Nat)} (h : TextsAt w ao ls) (k : Nat) : TextsAt w ao (ls.take k) := fun i hi => by
  have hi' : i < k ∧ i < ls.length := by simp at hi; omega
  have e : (ls.take k).getD i [] = ls.getD i [] := by simp [List.getD, hi'.1]
  rw [e]; exact h i hi'.2

theorem infoU8s : (Tryd.prog.info? 5).map (·.size) = some 1 := by kernel_rfl
/-- When two texts' strings are one, as the walk asks it. -/
theorem str_lst {a b : List Nat} (ha : ∀ x ∈ a, x < 256) (hb : ∀ x ∈ b, x < 256) : ((strOf a).toList == (strOf b).toList) = (a == b) := by
  rw [Bool.eq_iff_iff, beq_iff_eq, beq_iff_eq, ByteArray.toList_eq, ByteArray.toList_eq]
  constructor
  · intro h
    exact strOf_inj ha hb (ByteArray.ext (Array.ext' h))
  · rintro rfl; rfl
theorem str_dec {a b : List Nat} (ha : ∀ x ∈ a, x < 256) (hb : ∀ x ∈ b, x < 256) : decide (strOf a = strOf b) = (a == b) := by
  rw [Bool.eq_iff_iff, decide_eq_true_iff, beq_iff_eq, strOf_eq ha hb]
theorem cell_alloc_new' (w : World) (v : Value) (t : TypeId) : (w.alloc (.cells #[v] t)).cell? ⟨w.heap.size, 0, none⟩ = some v := by
  rw [cell_of_row _ _ _ _ _ _ (heap_alloc_new _ _)]; rfl
theorem eq_nil_d (d : Nat) (ao : Option Addr) (n cap : Nat) (x : World) : (Op.equalIn (d + 1) 85 (.slice ao n cap) (.slice none 0 0)).run Tryd.prog x = .ok ao.isNone x := by
  cases ao <;> simp [Op.equalIn, run_underlying Tryd.underlying85]
/-- A slice that is nil or not. -/
theorem eq_nil (ao : Option Addr) (n cap : Nat) (x : World) : (Op.equalIn 10000 85 (.slice ao n cap) (.slice none 0 0)).run Tryd.prog x = .ok ao.isNone x :=
  eq_nil_d 9999 ao n cap x
theorem eql_nil (ao : Option Addr) (n cap : Nat) (x : World) : (binOp .eql 85 (.slice ao n cap) (.slice none 0 0)).run Tryd.prog x = .ok (.bool ao.isNone) x := by
  simp only [binOp]
  simp [Op.equal, Op.maxDepth, eq_nil]
/-- 'make' of bytes. -/
theorem madeU8 (c : Nat) : madeCells #[.int .u8 0] c = u8s (List.replicate c 0) := by
  apply Array.ext
  · simp [madeCells, u8s]
  · intro i h1 h2
    simp [madeCells, u8s, Nat.mod_one]
theorem run_make_u8 (l c : Nat) (hlc : l ≤ c) (hc : c ≤ 16777216) (x : World) : (Instr.makeSlice 85 (.int .i64 (l : Int)) (.int .i64 (c : Int))).run Tryd.prog x = .ok (.slice (some ⟨x.heap.size, 0, none⟩) l c) (x.alloc (.cells (u8s (List.replicate c 0)) 5)) := by
  obtain ⟨i, hi, hz, hsz, hb⟩ := infoU8'
  have h := run_makeSlice (P := Tryd.prog) x 85 5 i (.int .u8 0) Tryd.underlying85 hi hz .i64 .i64 (l : Int) (c : Int) (by omega) (by omega) (by rw [hsz]; omega) (by rw [hb]; omega) (by omega)
  rw [h, hsz, Int.toNat_natCast, Int.toNat_natCast, Nat.mul_one]
  rw [show (Value.int .u8 0).cells = #[.int .u8 0] from rfl, madeU8]
theorem Own.weaken {w : World} {base base' : Nat} {e : TypeId} {v : Value} {xs : List Value} (h : Own w base e v xs) (hb : base' ≤ base) : Own w base' e v xs := by
  refine ⟨h.1, ?_⟩
  rcases h.2 with hn | ⟨g, cap, cur, rfl, hb0, rest⟩
  · exact .inl hn
  · exact .inr ⟨g, cap, cur, rfl, Nat.le_trans hb hb0, rest⟩
/-- An empty slice with room, just made, is the call's own. -/
theorem Own.room {w : World} (base c : Nat) (hb : base ≤ w.heap.size) (hc : c ≤ maxLen) : Own (w.alloc (.cells (u8s (List.replicate c 0)) 5)) base 5 (.slice (some ⟨w.heap.size, 0, none⟩) 0 c) (u8l []) :=
  ⟨by simp [u8l], .inr ⟨w.heap.size, c, u8s (List.replicate c 0), rfl, hb, heap_alloc_new _ _, Nat.zero_le _, hc, by simp [u8s], by simp [u8l]⟩⟩

/-- A load of an array of bytes out of the middle of a block. -/
theorem wpList_load_m {P : Program} {ops : Array Oper} {rest : List Oper} {o : Oper} {a : Act} {w : World} {Q : Exit → Act → World → Prop} (hgd : o.guard = none) (ty : TypeId) (x : Operand) (ho : o.op = .load ty x)
    (b f : Nat) (hx : a.eval x = .pointer (some ⟨b, f, none⟩)) (t : List Nat) (d : TypeDesc) (hc : w.rangeAt b f (u8l t))
    (hu : P.underlying ty = some d) (hd : d.isRow = true) (hi : (P.info? ty).map (·.size) = some t.length)
    (h : wpList P ops Q rest (a.put o.dst (.agg (u8s t))) w) : wpList P ops Q (o :: rest) a w :=
  wpList_load_mid hgd ty x ho b f hx (u8l t) d hc hu hd (by rw [hi]; simp [u8l]) h

end Go.Proofs.YtjhfoddhpmmjoaaDoor
