/-
  A slice that a call makes by 'append' from nothing, one element more at a time, and cut by 's = append(s[:k:k], s[k+1:]...)': what it holds. Conditions: one cell an element; not too long.
-/
import Derived.Test.YtjhfoddhpmmjoaaDoorQOwn
import Derived.ArgAppend
import Derived.Deep.Upon
namespace Go.Proofs.YtjhfoddhpmmjoaaDoor
set_option maxRecDepth 100000
open Go.RowKit

/-- A slice of the call's own, or one cut to its length behind another: its elements xs. -/
def Run (w : World) (base : Nat) (e : TypeId) (v : Value) (xs : List Value) : Prop :=
  Own w base e v xs ∨ ∃ g, v = .slice (some ⟨g, 0, none⟩) xs.length xs.length ∧ base ≤ g ∧ g < w.heap.size ∧ xs.length ≤ maxLen ∧ ∀ j u, xs[j]? = some u → w.cell? ⟨g, j, none⟩ = some u

theorem Run.nil (w : World) (base : Nat) (e : TypeId) : Run w base e (.slice none 0 0) [] := .inl (Own.nil w base e)
theorem Run.lt {w : World} {base : Nat} {e : TypeId} {v : Value} {xs : List Value} (h : Run w base e v xs) : ∀ k, v.ownBlock = some k → base ≤ k ∧ k < w.heap.size := by
  rcases h with h | ⟨g, rfl, hb, hl, _⟩
  · exact h.lt
  · intro k hk
    have : g = k := by simpa [Value.ownBlock] using hk
    subst this
    exact ⟨hb, hl⟩
theorem Run.other {w w' : World} {base : Nat} {e : TypeId} {v : Value} {xs : List Value} (h : Run w base e v xs) (hb : ∀ k, v.ownBlock = some k → w'.heap[k]? = w.heap[k]?) : Run w' base e v xs := by
  rcases h with h | ⟨g, rfl, h1, h2, h3, h4⟩
  · exact .inl (h.other hb)
  · have e := hb g rfl
    refine .inr ⟨g, rfl, h1, ?_, h3, fun j u hj => (World.cell?_of_block (w := w) (a := ⟨g, j, none⟩) e).trans (h4 j u hj)⟩
    have : w'.heap[g]? ≠ none := by rw [e, Array.getElem?_eq_getElem h2]; simp
    rcases Nat.lt_or_ge g w'.heap.size with q | q
    · exact q
    · exact absurd (Array.getElem?_eq_none q) this
theorem Run.below {w w' : World} {base : Nat} {e : TypeId} {v : Value} {xs : List Value} (h : Run w base e v xs) (hB : Below w.heap.size w w') : Run w' base e v xs :=
  h.other fun k hk => hB.block k (h.lt k hk).2
theorem Run.form {w : World} {base : Nat} {e : TypeId} {v : Value} {xs : List Value} (h : Run w base e v xs) : ∃ ao cap, v = .slice ao xs.length cap ∧ xs.length ≤ cap ∧ cap ≤ maxLen ∧ (ao = none → xs.length = 0 ∧ cap = 0) ∧
    ∀ i x, xs[i]? = some x → ∃ g, ao = some ⟨g, 0, none⟩ ∧ w.cell? ⟨g, i, none⟩ = some x := by
  rcases h with h | ⟨g, rfl, h1, h2, h3, h4⟩
  · obtain ⟨ao, cap, e1, e2, e3, e4, _, e6⟩ := h.form
    exact ⟨ao, cap, e1, e2, e3, e4, fun i x hx => by obtain ⟨g, a1, a2, _⟩ := e6 i x hx; exact ⟨g, a1, a2⟩⟩
  · exact ⟨_, _, rfl, Nat.le_refl _, h3, fun e => by simp at e, fun i x hx => ⟨g, rfl, h4 i x hx⟩⟩
/-- What an append leaves. -/
def RunTo (w : World) (base : Nat) (e : TypeId) (v : Value) (ys : List Value) (v' : Value) (w' : World) : Prop :=
  Run w' base e v' ys ∧ w.grownBy w' v.ownBlock ∧ (v'.ownBlock = v.ownBlock ∨ ∃ g, v'.ownBlock = some g ∧ w.heap.size ≤ g)
theorem RunTo.below {w w0 w' : World} {base : Nat} {e : TypeId} {v v' : Value} {xs ys : List Value} (h : RunTo w base e v ys v' w') (hr : Run w base e v xs) (hB : Below base w0 w) (hbase : base ≤ w.heap.size) : Below base w0 w' := by
  obtain ⟨_, h3, _⟩ := h
  refine hB.trans ⟨h3.os, h3.tape, h3.output, h3.size, fun k hk => h3.block k (by omega) fun eq => ?_⟩
  have := (hr.lt k eq.symm).1
  omega
section
variable {P : Program}
theorem run_append_one {w : World} (t ty e : TypeId) (ht : P.underlying t = some (.slice e)) (z : Value) (bytes : Nat) (hinfo : (P.info? e).map (fun i => (i.zero, i.size, i.bytes)) = some (some z, 1, bytes)) (hz1 : z.cells.size = 1) (hby : bytes ≤ 64)
    (base : Nat) (v : Value) (xs : List Value) (hrun : Run w base e v xs) (hbase : base ≤ w.heap.size) (ad : Addr) (c : Nat) (u : Value) (hu : w.cell? ad = some u) (h1 : u.oneCell' = true) (hlen : xs.length + 1 ≤ 1000000000) :
    ∃ v' w', (Builtin.append_ #[t, t] ty #[v, .slice (some ad) 1 c]).run P w = .ok v' w' ∧ RunTo w base e v (xs ++ [u]) v' w' := by
  obtain ⟨i, hi, hz, hsz, hb⟩ : ∃ i, P.info? e = some i ∧ i.zero = some z ∧ i.size = 1 ∧ i.bytes = bytes := by
    cases hq : P.info? e with
    | none => simp [hq] at hinfo
    | some i => simp [hq] at hinfo; exact ⟨i, rfl, hinfo.1, hinfo.2.1, hinfo.2.2⟩
  have hl : xs.length + 1 ≤ maxLen := by simp only [maxLen]; omega
  have hbb : (xs.length + 1) * bytes ≤ 140737488355328 := Nat.le_trans (Nat.mul_le_mul hlen hby) (by decide)
  have hn : ∀ j x, [u][j]? = some x → w.cell? (ad.add j) = some x := fun j x hj => by
    have hj0 : j = 0 := by have := (List.getElem?_eq_some_iff.1 hj).1; simp at this; omega
    subst hj0
    have e : ad.add 0 = ad := by obtain ⟨p, q, r⟩ := ad; unfold Addr.add; split <;> simp_all
    rw [e, hu]
    simpa using hj
  have h1' : ∀ x ∈ [u], x.oneCell' = true := fun x hx => by simp at hx; rw [hx]; exact h1
  rcases hrun with hown | ⟨g, rfl, r1, r2, r3, r4⟩
  · obtain ⟨v', w', hr, h2, h3, _, h5⟩ := run_append_own_at (P := P) w base t ty e i z 1 bytes ht hi hz hsz hb hz1 (by decide) v xs.length xs hown ad 1 c [u] (by simp) hn h1' hl hbb hbase
    refine ⟨v', w', hr, .inl ?_, h3, h5.imp id fun q => ⟨_, q, Nat.le_refl _⟩⟩
    show w'.ownsRow base e 1 v' (xs ++ [u]).length (xs ++ [u])
    rw [List.length_append]; exact h2
  · obtain ⟨v', w', hr, h2, h3⟩ := run_append_arg_grows (P := P) w t ty e i z 1 bytes ht hi hz hsz hb hz1 (by decide) ⟨g, 0, none⟩ xs.length xs.length xs (by simp) (fun j x hj => by rw [Addr.add_lit, Nat.zero_add]; exact r4 j x hj) ad 1 c [u] (by simp) hn (by omega) hl hbb
    have O : Own w' w.heap.size e v' (xs ++ [u]) := by
      show w'.ownsRow _ e 1 v' (xs ++ [u]).length (xs ++ [u])
      rw [List.length_append]; exact h2
    refine ⟨v', w', hr, .inl ⟨O.1, ?_⟩, ⟨h3.os, h3.tape, h3.output, h3.size, fun k hk _ => h3.block k hk (by simp)⟩, .inr ?_⟩
    · rcases O.2 with hn | ⟨g, cap', cur, q, hb0, rest⟩
      · exact .inl hn
      · exact .inr ⟨g, cap', cur, q, Nat.le_trans hbase hb0, rest⟩
    · rcases O.2 with ⟨q, hn⟩ | ⟨g, cap', cur, q, hb0, rest⟩
      · rw [List.length_append] at hn; simp at hn
      · exact ⟨g, by rw [q]; rfl, hb0⟩
theorem run_append_less {w : World} (t ty e : TypeId) (ht : P.underlying t = some (.slice e)) (z : Value) (bytes : Nat) (hinfo : (P.info? e).map (fun i => (i.zero, i.size, i.bytes)) = some (some z, 1, bytes)) (hz1 : z.cells.size = 1) (hby : bytes ≤ 64)
    (base : Nat) (ao : Option Addr) (cap : Nat) (xs : List Value) (hrun : Run w base e (.slice ao xs.length cap) xs) (hbase : base ≤ w.heap.size) (k : Nat) (hk : k < xs.length) (hlen : xs.length ≤ 1000000000) :
    ∃ v' w', (Builtin.append_ #[t, t] ty #[sliced ao 0 k k 1, sliced ao (k + 1) xs.length cap 1]).run P w = .ok v' w' ∧ RunTo w base e (.slice ao xs.length cap) (xs.eraseIdx k) v' w' := by
  obtain ⟨i, hi, hz, hsz, hb⟩ : ∃ i, P.info? e = some i ∧ i.zero = some z ∧ i.size = 1 ∧ i.bytes = bytes := by
    cases hq : P.info? e with
    | none => simp [hq] at hinfo
    | some i => simp [hq] at hinfo; exact ⟨i, rfl, hinfo.1, hinfo.2.1, hinfo.2.2⟩
  obtain ⟨ao', cap', ev, c1, c2, c3, c4⟩ := hrun.form
  obtain ⟨rfl, rfl⟩ : ao = ao' ∧ cap = cap' := by injection ev with e1 _ e3; exact ⟨e1, e3⟩
  obtain ⟨g, rfl, _⟩ := c4 k _ (List.getElem?_eq_getElem hk)
  have hc : ∀ i x, xs[i]? = some x → w.cell? ⟨g, i, none⟩ = some x := fun i x hx => by obtain ⟨g', e1, e2⟩ := c4 i x hx; cases e1; exact e2
  have hg := hrun.lt g rfl
  have s1 : sliced (some ⟨g, 0, none⟩) 0 k k 1 = .slice (some ⟨g, 0, none⟩) k k := by unfold sliced; simp [Addr.add_lit]
  have hlt : ∀ j, j < k → (xs.take k)[j]? = xs[j]? := fun j hj => by rw [List.getElem?_take, if_pos hj]
  rw [s1]
  rw [List.eraseIdx_eq_take_drop_succ]
  by_cases hlast : k + 1 = xs.length
  · have hd : xs.drop (k + 1) = [] := List.drop_eq_nil_of_le (by omega)
    rw [hd, List.append_nil]
    refine ⟨.slice (some ⟨g, 0, none⟩) k k, w, ?_, .inr ⟨g, by rw [List.length_take, Nat.min_eq_left (by omega)], hg.1, hg.2, by rw [List.length_take]; omega, fun j u hj => ?_⟩, ⟨rfl, rfl, rfl, Nat.le_refl _, fun _ _ _ => rfl⟩, .inl rfl⟩
    · obtain ⟨a, c, ha⟩ : ∃ a c, sliced (some ⟨g, 0, none⟩) (k + 1) xs.length cap 1 = .slice (some a) 0 c := by
        unfold sliced
        rw [← hlast, Nat.sub_self]
        split <;> exact ⟨_, _, rfl⟩
      rw [ha]
      exact run_append_nothing w t t ty e i ht hi _ k k (Nat.le_refl _) _ (Src.ofSlice w ht a 0 c [] (by simp) (fun j u hj => by simp at hj) (by simp))
    · have hj' : j < k := by have := (List.getElem?_eq_some_iff.1 hj).1; rw [List.length_take] at this; omega
      rw [hlt j hj'] at hj
      exact hc j u hj
  · have s2 : sliced (some ⟨g, 0, none⟩) (k + 1) xs.length cap 1 = .slice (some ⟨g, k + 1, none⟩) (xs.length - (k + 1)) (cap - (k + 1)) := by
      unfold sliced; rw [if_neg (by omega)]; simp [Addr.add_lit]
    rw [s2]
    have hl : k + (xs.length - (k + 1)) ≤ 1000000000 := by omega
    obtain ⟨v', w', hr, h2, h3⟩ := run_append_arg_grows (P := P) w t ty e i z 1 bytes ht hi hz hsz hb hz1 (by decide) ⟨g, 0, none⟩ k k (xs.take k) (by rw [List.length_take]; omega) (fun j x hj => by
        have hj' : j < k := by have := (List.getElem?_eq_some_iff.1 hj).1; rw [List.length_take] at this; omega
        rw [hlt j hj'] at hj
        rw [Addr.add_lit, Nat.zero_add]; exact hc j x hj)
      ⟨g, k + 1, none⟩ (xs.length - (k + 1)) (cap - (k + 1)) (xs.drop (k + 1)) (by rw [List.length_drop]; omega) (fun j x hj => by
        rw [List.getElem?_drop] at hj
        rw [Addr.add_lit]; exact hc _ x hj) (by omega) (by simp only [maxLen]; omega) (Nat.le_trans (Nat.mul_le_mul hl hby) (by decide))
    have O : Own w' w.heap.size e v' (xs.take k ++ xs.drop (k + 1)) := by
      show w'.ownsRow _ e 1 v' (xs.take k ++ xs.drop (k + 1)).length _
      rw [List.length_append, List.length_take, List.length_drop, Nat.min_eq_left (by omega)]; exact h2
    refine ⟨v', w', hr, .inl ⟨O.1, ?_⟩, ⟨h3.os, h3.tape, h3.output, h3.size, fun k hk _ => h3.block k hk (by simp)⟩, .inr ?_⟩
    · rcases O.2 with hn | ⟨g, cap', cur, q, hb0, rest⟩
      · exact .inl hn
      · exact .inr ⟨g, cap', cur, q, Nat.le_trans hbase hb0, rest⟩
    · rcases O.2 with ⟨q, hn⟩ | ⟨g, cap', cur, q, hb0, rest⟩
      · rw [List.length_append, List.length_drop] at hn; omega
      · exact ⟨g, by rw [q]; rfl, hb0⟩
/-- An append of which the run is known, as an operation. -/
theorem wp_append_run1 {w : World} {o : Oper} {a : Act} {K : Act → World → Prop} {Q : Exit → Act → World → Prop} (s x : Operand) (t : TypeId)
    (ho : o.op = .call { callee := .builtin .append, args := #[s, x], argTypes := #[t, t] }) (v vx : Value) (hs : a.eval s = v) (hx : a.eval x = vx) {R : Value → World → Prop}
    (hr : ∃ v' w', (Builtin.append_ #[t, t] o.type #[v, vx]).run P w = .ok v' w' ∧ R v' w') (h : ∀ v' w', R v' w' → K (a.put o.dst v') w') : o.wp P a w K Q := by
  obtain ⟨v', w', hr, h2⟩ := hr
  unfold Oper.wp execOp
  simp only [ho, resolve, invoke, builtin, Sem.run_bind, Sem.run_pure, Result.andThen_ok, List.map_toArray, List.map_cons, List.map_nil, hs, hx, hr]
  exact h v' w' h2
theorem wpList_append_run1 {w : World} {ops : Array Oper} {rest : List Oper} {o : Oper} {a : Act} {Q : Exit → Act → World → Prop} (hgd : o.guard = none) (s x : Operand) (t : TypeId)
    (ho : o.op = .call { callee := .builtin .append, args := #[s, x], argTypes := #[t, t] }) (v vx : Value) (hs : a.eval s = v) (hx : a.eval x = vx) {R : Value → World → Prop}
    (hr : ∃ v' w', (Builtin.append_ #[t, t] o.type #[v, vx]).run P w = .ok v' w' ∧ R v' w') (h : ∀ v' w', R v' w' → wpList P ops Q rest (a.put o.dst v') w') : wpList P ops Q (o :: rest) a w :=
  wpList_plain hgd fun _ hK => wp_append_run1 s x t ho v vx hs hx hr fun v' w' h2 => hK _ _ (h v' w' h2)
theorem step_append_run1 {w : World} {ops : Array Oper} {o : Oper} {a : Act} {K : Act → World → Prop} {Q : Exit → Act → World → Prop} {E : Prop} (hgd : o.guard = none) (s x : Operand) (t : TypeId)
    (ho : o.op = .call { callee := .builtin .append, args := #[s, x], argTypes := #[t, t] }) (v vx : Value) (hs : a.eval s = v) (hx : a.eval x = vx) {R : Value → World → Prop}
    (hr : ∃ v' w', (Builtin.append_ #[t, t] o.type #[v, vx]).run P w = .ok v' w' ∧ R v' w') (h : ∀ v' w', R v' w' → K (a.put o.dst v') w') : if Region.wanted o (yielded ops a.tmps) = true then Oper.wp P o a w K Q else E := by
  have hw : Region.wanted o (yielded ops a.tmps) = true := by simp [Region.wanted, hgd]
  rw [if_pos hw]
  exact wp_append_run1 s x t ho v vx hs hx hr h
end
end Go.Proofs.YtjhfoddhpmmjoaaDoor
