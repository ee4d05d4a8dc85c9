/-
  A slice that a call makes by 'append' from nothing: what it holds, and 'append' once more. Conditions: one cell an element; not too long.
-/
import Derived.Test.YtjhfoddhpmmjoaaDoorQRowB
import Derived.Maps.AppendAt
import Derived.Laws.AppendOwnNone
import Derived.Laws.OwnMore
import Derived.Deep.RegionLawGrows
namespace Go.Proofs.YtjhfoddhpmmjoaaDoor
set_option maxRecDepth 100000
open Go.RowKit

/-- Value v is a slice of the call's own (in blocks from base on), its elements xs. -/
def Own (w : World) (base : Nat) (e : TypeId) (v : Value) (xs : List Value) : Prop := w.ownsRow base e 1 v xs.length xs

theorem Own.nil (w : World) (base : Nat) (e : TypeId) : Own w base e (.slice none 0 0) [] := World.ownsRow_nil _ _ _ _
theorem Own.made {w : World} {base b : Nat} {e : TypeId} {xs : List Value} (h : w.heap[b]? = some (.cells xs.toArray e (0, 0))) (hb : base ≤ b) (hl : xs.length ≤ maxLen) : Own w base e (.slice (some ⟨b, 0, none⟩) xs.length xs.length) xs :=
  ⟨by simp, .inr ⟨b, xs.length, xs.toArray, rfl, hb, h, Nat.le_refl _, hl, by simp, by simp⟩⟩
theorem Own.other {w w' : World} {base : Nat} {e : TypeId} {v : Value} {xs : List Value} (h : Own w base e v xs) (hb : ∀ k, v.ownBlock = some k → w'.heap[k]? = w.heap[k]?) : Own w' base e v xs := by
  refine ⟨h.1, ?_⟩
  rcases h.2 with hn | ⟨g, cap, cur, rfl, hb0, hgg, rest⟩
  · exact .inl hn
  · exact .inr ⟨g, cap, cur, rfl, hb0, (hb g rfl).trans hgg, rest⟩
theorem Own.lt {w : World} {base : Nat} {e : TypeId} {v : Value} {xs : List Value} (h : Own w base e v xs) : ∀ k, v.ownBlock = some k → base ≤ k ∧ k < w.heap.size := World.ownsRow.lt h
theorem Own.below {w w' : World} {base : Nat} {e : TypeId} {v : Value} {xs : List Value} (h : Own w base e v xs) (hB : Below w.heap.size w w') : Own w' base e v xs :=
  h.other fun k hk => hB.block k (h.lt k hk).2
theorem Own.alloc {w : World} {base : Nat} {e : TypeId} {v : Value} {xs : List Value} (h : Own w base e v xs) (o : Obj) : Own (w.alloc o) base e v xs := World.ownsRow.alloc h o
theorem Own.drewN {w : World} {base : Nat} {e : TypeId} {v : Value} {xs : List Value} (h : Own w base e v xs) (n : Nat) : Own (w.drewN n) base e v xs := h
theorem Own.drew {w : World} {base : Nat} {e : TypeId} {v : Value} {xs : List Value} (h : Own w base e v xs) : Own w.drew base e v xs := h
theorem Own.form {w : World} {base : Nat} {e : TypeId} {v : Value} {xs : List Value} (h : Own w base e v xs) : ∃ ao cap, v = .slice ao xs.length cap ∧ xs.length ≤ cap ∧ cap ≤ maxLen ∧ (ao = none → xs.length = 0 ∧ cap = 0) ∧ (∀ ob oo, ao = some ⟨ob, oo, none⟩ → base ≤ ob) ∧
    ∀ i x, xs[i]? = some x → ∃ g, ao = some ⟨g, 0, none⟩ ∧ w.cell? ⟨g, i, none⟩ = some x ∧ w.frozen? ⟨g, i, none⟩ = false := by
  have hc := fun g hg => World.ownsRow.cells h (g := g) hg
  rcases h.2 with ⟨rfl, h0⟩ | ⟨g, cap, cur, rfl, hb0, hgg, h1, h2, h3, h4⟩
  · refine ⟨none, 0, by rw [h0], by omega, by simp [maxLen], fun _ => ⟨h0, rfl⟩, fun _ _ e => by simp at e, fun i x hx => ?_⟩
    have := (List.getElem?_eq_some_iff.1 hx).1
    omega
  · refine ⟨some ⟨g, 0, none⟩, cap, rfl, h1, h2, fun e => by simp at e, fun ob oo e => by cases e; exact hb0, fun i x hx => ⟨g, rfl, ?_, ?_⟩⟩
    · have := hc g rfl i x hx
      rwa [Addr.add_lit, Nat.zero_add] at this
    · exact frozen_of_row _ _ _ _ _ hgg

/-- 'append', the old slice the call's own (or nil), the new elements in cells. -/
theorem wpList_append_x {P : Program} {w : World} {ops : Array Oper} {rest : List Oper} {o : Oper} {a : Act} {Q : Exit → Act → World → Prop} (hgd : o.guard = none) (s x : Operand) (t : TypeId)
    (ho : o.op = .call { callee := .builtin .append, args := #[s, x], argTypes := #[t, t] }) (e : TypeId) (ht : P.underlying t = some (.slice e)) (z : Value) (bytes : Nat)
    (hinfo : (P.info? e).map (fun i => (i.zero, i.size, i.bytes)) = some (some z, 1, bytes)) (hz1 : z.cells.size = 1) (hby : bytes ≤ 64)
    (base : Nat) (w0 : World) (v : Value) (xs : List Value) (hs : a.eval s = v) (hown : Own w base e v xs) (hB : Below base w0 w) (hbase : base ≤ w.heap.size)
    (ao : Option Addr) (m c : Nat) (news : List Value) (hx : a.eval x = .slice ao m c) (hm : news.length = m) (hnone : ao = none → c = 0) (hnews : ∀ j u, news[j]? = some u → ∃ ad, ao = some ad ∧ w.cell? (ad.add j) = some u) (h1 : ∀ u ∈ news, u.oneCell' = true)
    (hlen : xs.length + m ≤ 1000000000)
    (h : ∀ v' w', Hid (Own w' base e v' (xs ++ news)) → Hid (Below base w0 w') → Hid (w.grownBy w' v.ownBlock) → Hid (v'.ownBlock = v.ownBlock ∨ v'.ownBlock = some w.heap.size) → wpList P ops Q rest (a.put o.dst v') w') : wpList P ops Q (o :: rest) a w := by
  obtain ⟨i, hi, hz, hsz, hb⟩ : ∃ i, P.info? e = some i ∧ i.zero = some z ∧ i.size = 1 ∧ i.bytes = bytes := by
    cases hq : P.info? e with
    | none => simp [hq] at hinfo
    | some i => simp [hq] at hinfo; exact ⟨i, rfl, hinfo.1, hinfo.2.1, hinfo.2.2⟩
  have hl : xs.length + m ≤ maxLen := by simp only [maxLen]; omega
  have hbb : (xs.length + m) * bytes ≤ 140737488355328 := Nat.le_trans (Nat.mul_le_mul hlen hby) (by decide)
  have fin : ∀ v' w', w'.ownsRow base e 1 v' (xs.length + m) (xs ++ news) → w.grownBy w' v.ownBlock → (v'.ownBlock = v.ownBlock ∨ v'.ownBlock = some w.heap.size) → wpList P ops Q rest (a.put o.dst v') w' := fun v' w' h2 h3 h5 => by
    refine h v' w' ?_ ?_ h3 h5
    · show w'.ownsRow base e 1 v' (xs ++ news).length (xs ++ news)
      rw [List.length_append, hm]; exact h2
    · refine hB.trans ⟨h3.os, h3.tape, h3.output, h3.size, fun k hk => h3.block k (by omega) fun eq => ?_⟩
      have := (hown.lt k eq.symm).1
      omega
  cases hao : ao with
  | some ad =>
    subst hao
    refine wpList_append_own_at w hgd s x t ho base e i z 1 bytes ht hi hz hsz hb hz1 (by decide) v xs.length xs hs hown ad m c news hx (by omega) (fun j u hj => ?_) h1 hl hbb hbase (fun v' w' h2 h3 _ h5 => fin v' w' h2 h3 h5)
    obtain ⟨ad', e1, e2⟩ := hnews j u hj
    cases e1; exact e2
  | none =>
    subst hao
    have hc := hnone rfl
    have hm0 : m = 0 := by
      rcases Nat.eq_zero_or_pos m with h0 | h0
      · exact h0
      · obtain ⟨u, hu⟩ : ∃ u, news[0]? = some u := ⟨news[0]'(by omega), by simp⟩
        obtain ⟨ad, e1, _⟩ := hnews 0 u hu
        simp at e1
    subst hc hm0
    obtain rfl : news = [] := List.eq_nil_of_length_eq_zero hm
    refine wpList_append_own_none hgd s x t ho base e i 1 ht hi v xs.length xs hs hown hx ?_
    refine fin v w (by rw [List.append_nil, Nat.add_zero]; exact hown) ⟨rfl, rfl, rfl, Nat.le_refl _, fun _ _ _ => rfl⟩ (.inl rfl)

/-- The same at a step of a region that draws its order. -/
theorem step_append_x {P : Program} {w : World} {ops : Array Oper} {o : Oper} {a : Act} {K : Act → World → Prop} {Q : Exit → Act → World → Prop} {E : Prop} (hgd : o.guard = none) (s x : Operand) (t : TypeId)
    (ho : o.op = .call { callee := .builtin .append, args := #[s, x], argTypes := #[t, t] }) (e : TypeId) (ht : P.underlying t = some (.slice e)) (z : Value) (bytes : Nat)
    (hinfo : (P.info? e).map (fun i => (i.zero, i.size, i.bytes)) = some (some z, 1, bytes)) (hz1 : z.cells.size = 1) (hby : bytes ≤ 64)
    (base : Nat) (w0 : World) (v : Value) (xs : List Value) (hs : a.eval s = v) (hown : Own w base e v xs) (hB : Below base w0 w) (hbase : base ≤ w.heap.size)
    (ad : Addr) (m c : Nat) (news : List Value) (hx : a.eval x = .slice (some ad) m c) (hm : news.length = m) (hnews : ∀ j u, news[j]? = some u → ∃ ad', some ad = some ad' ∧ w.cell? (ad'.add j) = some u) (h1 : ∀ u ∈ news, u.oneCell' = true)
    (hlen : xs.length + m ≤ 1000000000)
    (h : ∀ v' w', Hid (Own w' base e v' (xs ++ news)) → Hid (Below base w0 w') → Hid (w.grownBy w' v.ownBlock) → Hid (v'.ownBlock = v.ownBlock ∨ v'.ownBlock = some w.heap.size) → K (a.put o.dst v') w') : if Region.wanted o (yielded ops a.tmps) = true then Oper.wp P o a w K Q else E := by
  have hw : Region.wanted o (yielded ops a.tmps) = true := by simp [Region.wanted, hgd]
  rw [if_pos hw]
  obtain ⟨i, hi, hz, hsz, hb⟩ : ∃ i, P.info? e = some i ∧ i.zero = some z ∧ i.size = 1 ∧ i.bytes = bytes := by
    cases hq : P.info? e with
    | none => simp [hq] at hinfo
    | some i => simp [hq] at hinfo; exact ⟨i, rfl, hinfo.1, hinfo.2.1, hinfo.2.2⟩
  have hl : xs.length + m ≤ maxLen := by simp only [maxLen]; omega
  have hbb : (xs.length + m) * bytes ≤ 140737488355328 := Nat.le_trans (Nat.mul_le_mul hlen hby) (by decide)
  have hn' : ∀ j u, news[j]? = some u → w.cell? (ad.add j) = some u := fun j u hj => by
    obtain ⟨ad', e1, e2⟩ := hnews j u hj
    cases e1; exact e2
  obtain ⟨v', w', hr, h2, h3, h4, h5⟩ := run_append_own_at (P := P) w base t o.type e i z 1 bytes ht hi hz hsz hb hz1 (by decide) v xs.length xs hown ad m c news (by omega) hn' h1 hl hbb hbase
  unfold Oper.wp execOp
  simp only [ho, resolve, invoke, builtin, Sem.run_bind, Sem.run_pure, Result.andThen_ok, List.map_toArray, List.map_cons, List.map_nil, hs, hx, hr]
  refine h v' w' ?_ ?_ h3 h5
  · show w'.ownsRow base e 1 v' (xs ++ news).length (xs ++ news)
    rw [List.length_append, hm]; exact h2
  · refine hB.trans ⟨h3.os, h3.tape, h3.output, h3.size, fun k hk => h3.block k (by omega) fun eq => ?_⟩
    have := (hown.lt k eq.symm).1
    omega

/-- The same, the old row told too: it reads as it did. -/
theorem step_append_y {P : Program} {w : World} {ops : Array Oper} {o : Oper} {a : Act} {K : Act → World → Prop} {Q : Exit → Act → World → Prop} {E : Prop} (hgd : o.guard = none) (s x : Operand) (t : TypeId)
    (ho : o.op = .call { callee := .builtin .append, args := #[s, x], argTypes := #[t, t] }) (e : TypeId) (ht : P.underlying t = some (.slice e)) (z : Value) (bytes : Nat)
    (hinfo : (P.info? e).map (fun i => (i.zero, i.size, i.bytes)) = some (some z, 1, bytes)) (hz1 : z.cells.size = 1) (hby : bytes ≤ 64)
    (base : Nat) (v : Value) (xs : List Value) (hs : a.eval s = v) (hown : Own w base e v xs) (hbase : base ≤ w.heap.size)
    (ad : Addr) (m c : Nat) (news : List Value) (hx : a.eval x = .slice (some ad) m c) (hm : news.length = m) (hnews : ∀ j u, news[j]? = some u → w.cell? (ad.add j) = some u) (h1 : ∀ u ∈ news, u.oneCell' = true)
    (hlen : xs.length + m ≤ 1000000000)
    (h : ∀ v' w', Hid (Own w' base e v' (xs ++ news)) → Hid (w.grownBy w' v.ownBlock) → Hid (v'.ownBlock = v.ownBlock ∨ ∃ g, v'.ownBlock = some g ∧ w.heap.size ≤ g) → Hid (∀ g j u, v.ownBlock = some g → xs[j]? = some u → w'.cell? ⟨g, j, none⟩ = some u) → K (a.put o.dst v') w') : if Region.wanted o (yielded ops a.tmps) = true then Oper.wp P o a w K Q else E := by
  have hw : Region.wanted o (yielded ops a.tmps) = true := by simp [Region.wanted, hgd]
  obtain ⟨i, hi, hz, hsz, hb⟩ : ∃ i, P.info? e = some i ∧ i.zero = some z ∧ i.size = 1 ∧ i.bytes = bytes := by
    cases hq : P.info? e with
    | none => simp [hq] at hinfo
    | some i => simp [hq] at hinfo; exact ⟨i, rfl, hinfo.1, hinfo.2.1, hinfo.2.2⟩
  have hl : xs.length + m ≤ maxLen := by simp only [maxLen]; omega
  have hbb : (xs.length + m) * bytes ≤ 140737488355328 := Nat.le_trans (Nat.mul_le_mul hlen hby) (by decide)
  have old : ∀ g j u, v.ownBlock = some g → xs[j]? = some u → w.cell? ⟨g, j, none⟩ = some u := fun g j u hg hj => by
    have := World.ownsRow.cells hown (g := g) hg j u hj
    rwa [Addr.add_lit, Nat.zero_add] at this
  obtain ⟨ao, cap, ev, c1, c2, c3, _, _⟩ := hown.form
  by_cases hroom : xs.length + m ≤ cap
  · cases hao : ao with
    | none =>
      have := (c3 hao)
      have hm0 : m = 0 := by omega
      have hx0 : xs.length = 0 := this.1
      rw [if_pos hw]
      obtain ⟨v', w', hr, h2, h3, h4, h5⟩ := run_append_own_at (P := P) w base t o.type e i z 1 bytes ht hi hz hsz hb hz1 (by decide) v xs.length xs hown ad m c news (by omega) hnews h1 hl hbb hbase
      unfold Oper.wp execOp
      simp only [ho, resolve, invoke, builtin, Sem.run_bind, Sem.run_pure, Result.andThen_ok, List.map_toArray, List.map_cons, List.map_nil, hs, hx, hr]
      refine h v' w' (Lib.hid ?_) (Lib.hid h3) (Lib.hid (h5.imp id fun q => ⟨_, q, Nat.le_refl _⟩)) (Lib.hid fun g j u hg hj => ?_)
      · show w'.ownsRow base e 1 v' (xs ++ news).length (xs ++ news)
        rw [List.length_append, hm]; exact h2
      · rw [ev, hao] at hg; simp [Value.ownBlock] at hg
    | some a0 =>
      rw [if_pos hw]
      have hown2 := hown
      rcases hown2.2 with ⟨q, _⟩ | ⟨g, cap', cur, q, _⟩
      · rw [q] at ev; rw [hao] at ev; simp at ev
      · rw [q] at ev hown
        obtain ⟨rfl, rfl⟩ : some (⟨g, 0, none⟩ : Addr) = ao ∧ cap' = cap := by injection ev with e1 _ e3; exact ⟨e1, e3⟩
        obtain ⟨w', hr, h2, h3⟩ := run_append_fits (P := P) w base t o.type e i 1 ht hi hsz g xs.length cap' xs hown ad m c news (by omega) hnews h1 hroom
        unfold Oper.wp execOp
        simp only [ho, resolve, invoke, builtin, Sem.run_bind, Sem.run_pure, Result.andThen_ok, List.map_toArray, List.map_cons, List.map_nil, hs.trans q, hx, hr]
        rw [q] at h
        have O : Own w' base e (.slice (some ⟨g, 0, none⟩) (xs.length + m) cap') (xs ++ news) := by
          show w'.ownsRow base e 1 _ (xs ++ news).length (xs ++ news)
          rw [List.length_append, hm]; exact h2
        refine h _ w' (Lib.hid O) (Lib.hid h3) (Lib.hid (Or.inl rfl)) (Lib.hid fun g' j u hg hj => ?_)
        have hg' : g = g' := by simpa [Value.ownBlock] using hg
        subst hg'
        have := World.ownsRow.cells O (g := g) rfl j u (by rw [List.getElem?_append_left (List.getElem?_eq_some_iff.1 hj).1]; exact hj)
        rwa [Addr.add_lit, Nat.zero_add] at this
  · refine step_append_grows hgd s x t ho e i z 1 bytes ht hi hz hsz hb hz1 (by decide) ao xs.length cap xs (hs.trans ev) c3 (by omega) (fun b hb j u hj => ?_) ad m c news hx (by omega) hnews h1 (by omega) hl hbb fun v' w' r1 r2 => ?_
    · rcases hown.2 with ⟨q, _⟩ | ⟨g, cap', cur, q, _⟩
      · rw [q] at ev; injection ev with e1; rw [← e1] at hb; simp at hb
      · have hg : v.ownBlock = some g := by rw [q]; rfl
        rw [q] at ev
        injection ev with e1
        rw [← e1] at hb
        injection hb with hb
        rw [← hb, Addr.add_lit, Nat.zero_add]
        exact old g j u hg hj
    · have O : Own w' w.heap.size e v' (xs ++ news) := by
        show w'.ownsRow _ e 1 v' (xs ++ news).length (xs ++ news)
        rw [List.length_append, hm]; exact r1
      have r3 : w.grownBy w' v.ownBlock := ⟨r2.os, r2.tape, r2.output, r2.size, fun k hk _ => r2.block k hk (by simp)⟩
      refine h v' w' (Lib.hid ?_) (Lib.hid r3) (Lib.hid ?_) (Lib.hid fun g j u hg hj => ?_)
      · refine ⟨O.1, ?_⟩
        rcases O.2 with hn | ⟨g, cap', cur, q, hb0, rest⟩
        · exact .inl hn
        · exact .inr ⟨g, cap', cur, q, Nat.le_trans hbase hb0, rest⟩
      · right
        rcases O.2 with ⟨q, hn⟩ | ⟨g, cap', cur, q, hb0, rest⟩
        · rw [List.length_append, hm] at hn
          omega
        · exact ⟨g, by rw [q]; rfl, hb0⟩
      · have hc := old g j u hg hj
        have hlt := (hown.lt g hg).2
        exact (World.cell?_of_block (w := w) (r2.block g hlt (by simp))).trans hc

/-- One element in a block of its own, just made. -/
theorem one_cell {w : World} {x : Value} {t : TypeId} : ∀ j u, [x][j]? = some u → ∃ ad, some (⟨w.heap.size, 0, none⟩ : Addr) = some ad ∧ (w.alloc (.cells #[x] t)).cell? (ad.add j) = some u :=
  fun j u h => ⟨_, rfl, cell_one_new w x t j u h⟩

end Go.Proofs.YtjhfoddhpmmjoaaDoor
