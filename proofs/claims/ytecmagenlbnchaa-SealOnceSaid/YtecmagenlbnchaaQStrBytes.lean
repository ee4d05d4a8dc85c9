/-
  '[]byte(s)' of a string, and 'append' onto it. Condition: not too long.
-/
import Derived.Test.YtecmagenlbnchaaQCut
import Derived.Laws.IdiomStrings
import Derived.ArgAppend
import Derived.Lib.SlBuf
namespace Go.Proofs.Ytecmagenlbnchaa
set_option maxRecDepth 100000
open Go.RowKit

/-- A string's text. -/
def textOf (s : ByteArray) : List Nat := s.data.toList.map UInt8.toNat
theorem textOf_small (s : ByteArray) : ∀ x ∈ textOf s, x < 256 := by
  intro x hx
  obtain ⟨b, _, rfl⟩ := List.mem_map.1 hx
  exact b.toNat_lt
theorem textOf_length (s : ByteArray) : (textOf s).length = s.size := by unfold textOf; rw [List.length_map]; rfl
theorem bytesRow_size (s : ByteArray) (c : Nat) (h : s.size ≤ c) : (bytesRow s c).size = c := by
  unfold bytesRow
  rw [Array.size_append, Array.size_map, Array.size_replicate]
  show s.size + (c - s.size) = c
  omega
theorem textOf_strOf {t : List Nat} (h : ∀ x ∈ t, x < 256) : textOf (strOf t) = t := by
  unfold textOf strOf
  rw [strOfNums_data, List.map_map, List.map_map]
  conv => rhs; rw [← List.map_id t]
  refine List.map_congr_left fun x hx => ?_
  have := h x hx
  simp [Nat.mod_eq_of_lt this]
theorem size_strOf (t : List Nat) : (strOf t).size = t.length := by
  unfold strOf
  rw [strOfNums_size, List.length_map]

/-- A slice of bytes whose block is known whole and may be written, marked or not. -/
def OwnF (w : World) (base : Nat) (v : Value) (t : List Nat) : Prop :=
  ∃ g cap cur fr, v = .slice (some ⟨g, 0, none⟩) t.length cap ∧ base ≤ g ∧ w.heap[g]? = some (.cells cur 5 fr) ∧ cur.size = cap ∧ t.length ≤ cap ∧ cap ≤ fr.1 ∧ (∀ j, j < t.length → cur[j]? = some (.int .u8 (byt t j : Nat))) ∧ (∀ x ∈ t, x < 256)
theorem OwnF.text {w : World} {base : Nat} {v : Value} {t : List Nat} (h : OwnF w base v t) : TextAt w v t := by
  obtain ⟨g, cap, cur, fr, rfl, _, h2, h3, h4, h5, h6, h7⟩ := h
  refine ⟨_, cap, rfl, h4, fun e => by simp at e, fun i hi => ⟨byt_lt h7 i, g, 0, rfl, ?_⟩⟩
  rw [Nat.zero_add, cell_of_row _ _ _ _ _ _ h2, h6 i hi]
theorem OwnF.below {w w' : World} {base : Nat} {v : Value} {t : List Nat} (h : OwnF w base v t) (hB : Below w.heap.size w w') : OwnF w' base v t := by
  obtain ⟨g, cap, cur, fr, h1, hb, h2, h3⟩ := h
  exact ⟨g, cap, cur, fr, h1, hb, (hB.block _ (lt_of_block h2)).trans h2, h3⟩
theorem OwnF.lt {w : World} {base : Nat} {v : Value} {t : List Nat} (h : OwnF w base v t) : base ≤ w.heap.size := by
  obtain ⟨g, cap, cur, fr, h1, hb, h2, _⟩ := h
  have := lt_of_block h2
  omega
theorem OwnF.weaken {w : World} {base base' : Nat} {v : Value} {t : List Nat} (h : OwnF w base v t) (hb : base' ≤ base) : OwnF w base' v t := by
  obtain ⟨g, cap, cur, fr, h1, hb', h2⟩ := h
  exact ⟨g, cap, cur, fr, h1, by omega, h2⟩

theorem wp_conv_bytes {w : World} {o : Oper} {a : Act} {K : Act → World → Prop} {Q : Exit → Act → World → Prop} (x : Operand) (ho : o.op = .convert 9 25 x) (s : ByteArray) (hx : a.eval x = .string s)
    (h : ∀ c w', Hid (OwnF w' w.heap.size (.slice (some ⟨w.heap.size, 0, none⟩) s.size c) (textOf s)) → Hid (Below w.heap.size w w') → K (a.put o.dst (.slice (some ⟨w.heap.size, 0, none⟩) s.size c)) w') : o.wp Try.prog a w K Q := by
  have hr := run_bytes_of_string (P := Try.prog) w 9 25 5 s Try.underlying9 Try.underlying25 Try.underlying5
  have hge := grownCap_ge w s.size 0 5
  unfold Oper.wp execOp
  simp only [ho, hx, Sem.run_bind, Sem.run_pure, hr, Result.andThen_ok]
  generalize grownCap w s.size 0 5 = c at *
  refine h _ _ ⟨w.heap.size, c, _, _, by rw [textOf_length], Nat.le_refl _, heap_alloc_new w.drew _, ?_, by rw [textOf_length]; exact hge, ?_, ?_, textOf_small s⟩ ((Below.refl _ _).drew.alloc (Nat.le_refl _) _)
  · exact bytesRow_size s c hge
  · rw [bytesRow_size s c hge]; exact Nat.le_refl _
  · intro j hj
    rw [textOf_length] at hj
    have hj' : j < s.data.size := hj
    unfold bytesRow
    rw [Array.getElem?_append_left (by rw [Array.size_map]; exact hj'), Array.getElem?_map, Array.getElem?_eq_getElem hj']
    have e : byt (textOf s) j = (s.data[j]).toNat := by
      unfold byt textOf
      rw [List.getD, List.getElem?_map, Array.getElem?_toList, Array.getElem?_eq_getElem hj']
      rfl
    rw [e]; rfl

theorem wpList_conv_bytes {w : World} {ops : Array Oper} {rest : List Oper} {o : Oper} {a : Act} {Q : Exit → Act → World → Prop} (hw : Region.wanted o (yielded ops a.tmps) = true) (x : Operand) (ho : o.op = .convert 9 25 x) (s : ByteArray) (hx : a.eval x = .string s)
    (h : ∀ c w', Hid (OwnF w' w.heap.size (.slice (some ⟨w.heap.size, 0, none⟩) s.size c) (textOf s)) → Hid (Below w.heap.size w w') → wpList Try.prog ops Q rest (a.put o.dst (.slice (some ⟨w.heap.size, 0, none⟩) s.size c)) w') : wpList Try.prog ops Q (o :: rest) a w :=
  wpList_step fun _ hK => by rw [if_pos hw]; exact wp_conv_bytes x ho s hx fun c w' g1 g2 => hK _ _ (h c w' g1 g2)

/-- 'append' onto such a slice. -/
theorem wp_append_f {w : World} {o : Oper} {a : Act} {K : Act → World → Prop} {Q : Exit → Act → World → Prop} (s x : Operand)
    (ho : o.op = .call { callee := .builtin .append, args := #[s, x], argTypes := #[25, 25] })
    (base : Nat) (w0 : World) (v : Value) (t : List Nat) (hs : a.eval s = v) (hown : OwnF w base v t) (hB : Below base w0 w)
    (vx : Value) (u : List Nat) (hx : a.eval x = vx) (hu : TextAt w vx u) (hlen : t.length + u.length ≤ 1000000000)
    (h : ∀ v' w', Hid (TextAt w' v' (t ++ u)) → Hid (Below base w0 w') → K (a.put o.dst v') w') : o.wp Try.prog a w K Q := by
  obtain ⟨i, hi, hz, hsz, hb⟩ := infoU8'
  have tx := hown.text
  have hbase := hown.lt
  have hu' := hu
  have usm := hu.small
  obtain ⟨ao, cx, rfl, h1, h2, h3⟩ := hu.ex
  obtain ⟨g, cap, cur, fr, rfl, g1, g2, g3, g4, g5, g6, g7⟩ := hown
  have ht : Try.prog.underlying 25 = some (.slice 5) := Try.underlying25
  have small : ∀ y ∈ t ++ u, y < 256 := fun y hy => by
    rcases List.mem_append.1 hy with hy | hy
    · exact g7 y hy
    · exact usm y hy
  have nil : u = [] → (Builtin.append_ #[25, 25] o.type #[.slice (some ⟨g, 0, none⟩) t.length cap, .slice ao u.length cx]).run Try.prog w = .ok (.slice (some ⟨g, 0, none⟩) t.length cap) w → o.wp Try.prog a w K Q := fun e hr => by
    subst e
    unfold Oper.wp execOp
    simp only [ho, resolve, invoke, builtin, Sem.run_bind, Sem.run_pure, Result.andThen_ok, List.map_toArray, List.map_cons, List.map_nil, hs, hx, hr]
    exact h _ _ (by rw [List.append_nil]; exact tx) hB
  by_cases h0 : u.length = 0
  · have e : u = [] := List.eq_nil_of_length_eq_zero h0
    refine nil e ?_
    rw [h0]
    cases ao with
    | none => simp [Builtin.append_, run_underlying ht, sizeOf, typeInfo, hi, Builtin.lenOf, Builtin.firstCells, g4, storeCells]
    | some ad =>
      have hfc := run_firstCells_some (P := Try.prog) w i.size 0 ad 0 cx [] (by simp) (by simp)
      simp [Builtin.append_, run_underlying ht, sizeOf, typeInfo, hi, Builtin.lenOf, g4, hfc, storeCells]
  · obtain ⟨ad, rfl, hsrc⟩ : ∃ ad, ao = some ad ∧ ∀ j y, (u8l u)[j]? = some y → w.cell? (ad.add j) = some y := by
      have hn := h3.news
      obtain ⟨ad, e, _⟩ := hn 0 ((u8l u)[0]'(by simp [u8l]; omega)) (by simp)
      subst e
      exact ⟨ad, rfl, fun j y hj => by obtain ⟨ad', e, c⟩ := hn j y hj; cases e; exact c⟩
    by_cases hroom : t.length + u.length ≤ cap
    · have hr := run_append_room_cells (P := Try.prog) w 25 o.type 5 i ht hi g 0 t.length cap ad u.length cx (u8l u) (by simp [u8l, hsz]) hsrc (u8l_one _) hroom
        (fun j hj => by
          simp only [u8l, List.length_map] at hj
          rw [hsz, Nat.mul_one, Nat.zero_add, cell_of_row _ _ _ _ _ _ g2]
          simp [show t.length + j < cur.size by omega])
        (fun j hj => by
          simp only [u8l, List.length_map] at hj
          rw [hsz, Nat.mul_one, Nat.zero_add]
          simp only [World.frozen?, g2]
          simp; omega)
      rw [hsz, Nat.mul_one, Nat.zero_add] at hr
      unfold Oper.wp execOp
      simp only [ho, resolve, invoke, builtin, Sem.run_bind, Sem.run_pure, Result.andThen_ok, List.map_toArray, List.map_cons, List.map_nil, hs, hx, hr]
      refine h _ _ ?_ (hB.trans (Lib.below_setCells g g1 _ _ (Below.refl _ _)))
      have hc1 : ∀ j, j < (u8l u).length → (w.cell? ⟨g, t.length + j, none⟩).isSome = true := fun j hj => by
        simp only [u8l, List.length_map] at hj
        rw [cell_of_row _ _ _ _ _ _ g2]
        simp [show t.length + j < cur.size by omega]
      refine ⟨_, cap, by rw [List.length_append], by rw [List.length_append]; exact hroom, fun e => by simp at e, fun k hk => ⟨byt_lt small k, g, 0, rfl, ?_⟩⟩
      rw [Nat.zero_add, byt_append]
      rw [List.length_append] at hk
      by_cases hkt : k < t.length
      · rw [if_pos hkt, World.cell?_setCells_out g (u8l u) t.length w ⟨g, k, none⟩ (fun _ _ => Or.inl hkt), cell_of_row _ _ _ _ _ _ g2, g6 k hkt]
      · rw [if_neg hkt]
        have hin := World.cell?_setCells_in g (u8l u) t.length w hc1 (k - t.length) (by simp [u8l]; omega)
        rw [show t.length + (k - t.length) = k by omega] at hin
        rw [hin]
        simp [u8l, byt, List.getD, show k - t.length < u.length by omega]
    · obtain ⟨v', w', hr, q1, q2⟩ := run_append_arg_grows (P := Try.prog) w 25 o.type 5 i (.int .u8 0) 1 1 ht hi hz hsz hb rfl (by decide) ⟨g, 0, none⟩ t.length cap (u8l t) (by simp [u8l]) (fun j y hj => by
          have hjt : j < t.length := by
            have := (List.getElem?_eq_some_iff.1 hj).1
            simpa [u8l] using this
          rw [Addr.add_lit, Nat.zero_add, cell_of_row _ _ _ _ _ _ g2, g6 j hjt, ← hj]
          simp [u8l, byt, List.getD, hjt]) ad u.length cx (u8l u) (by simp [u8l]) hsrc (by omega) (by simp only [maxLen]; omega) (by omega)
      unfold Oper.wp execOp
      simp only [ho, resolve, invoke, builtin, Sem.run_bind, Sem.run_pure, Result.andThen_ok, List.map_toArray, List.map_cons, List.map_nil, hs, hx, hr]
      have hO : Own w' w.heap.size 5 v' (u8l (t ++ u)) := by
        show w'.ownsRow w.heap.size 5 1 v' (u8l (t ++ u)).length (u8l (t ++ u))
        rw [u8l_append, List.length_append, show (u8l t).length = t.length by simp [u8l], show (u8l u).length = u.length by simp [u8l]]
        exact q1
      refine h _ _ (hO.text small) (hB.trans ⟨q2.os, q2.tape, q2.output, q2.size, fun k hk => q2.block k (by omega) (by simp)⟩)

theorem wpList_append_f {w : World} {ops : Array Oper} {rest : List Oper} {o : Oper} {a : Act} {Q : Exit → Act → World → Prop} (hw : Region.wanted o (yielded ops a.tmps) = true) (s x : Operand)
    (ho : o.op = .call { callee := .builtin .append, args := #[s, x], argTypes := #[25, 25] })
    (base : Nat) (w0 : World) (v : Value) (t : List Nat) (hs : a.eval s = v) (hown : OwnF w base v t) (hB : Below base w0 w)
    (vx : Value) (u : List Nat) (hx : a.eval x = vx) (hu : TextAt w vx u) (hlen : t.length + u.length ≤ 1000000000)
    (h : ∀ v' w', Hid (TextAt w' v' (t ++ u)) → Hid (Below base w0 w') → wpList Try.prog ops Q rest (a.put o.dst v') w') : wpList Try.prog ops Q (o :: rest) a w :=
  wpList_step fun _ hK => by rw [if_pos hw]; exact wp_append_f s x ho base w0 v t hs hown hB vx u hx hu hlen fun v' w' g1 g2 => hK _ _ (h v' w' g1 g2)

end Go.Proofs.Ytecmagenlbnchaa
