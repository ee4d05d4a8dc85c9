/-
  The reference of layer 7: what its walk keeps. No condition.
-/
import Derived.Test.YtnadgjlmlnhknaaRef07
namespace Go.Proofs.Ytnadgjlmlnhknaa
open Go.RowKit

/-- A slice does not lie in block g. -/
def NotIn (v : Value) (g : Nat) : Prop := ∀ ad n c, v = .slice (some ad) n c → ad.block ≠ g
theorem NotIn.ofOwn {w : World} {base g : Nat} {e : TypeId} {v : Value} {xs : List Value} (h : Own w base e v xs) (hg : g < base) : NotIn v g := fun ad n c e => by
  have h1 := (h.lt ad.block (by rw [e]; rfl)).1
  omega
theorem NotIn.typed {w : World} {base g : Nat} {v : Value} {xs : List Value} {cur : Array Value} {fr : Nat × Nat} (h : Own w base 5 v xs) (hg : w.heap[g]? = some (.cells cur 29 fr)) : NotIn v g := fun ad n c e q => by
  obtain ⟨cc, hc⟩ := own_typed h (k := ad.block) (by rw [e]; rfl)
  rw [q, hg] at hc
  simp at hc
theorem block_add (ad : Addr) (k : Nat) : (ad.add k).block = ad.block := by
  unfold Addr.add
  split <;> rfl
theorem NotIn.cut {ao : Option Addr} {n cap lo n' c' g : Nat} (h : NotIn (.slice ao n cap) g) : NotIn (.slice (cutA ao cap lo) n' c') g := fun ad n2 c2 e => by
  injection e with e1
  unfold cutA at e1
  split at e1
  · exact h ad n cap (by rw [e1])
  · cases ao with
    | none => simp at e1
    | some a0 =>
      simp only [Option.map_some, Option.some.injEq] at e1
      rw [← e1, block_add]
      exact h a0 n cap rfl
theorem TextAt.aside {w w' : World} {v : Value} {t : List Nat} {g : Nat} (h : TextAt w v t) (hn : NotIn v g) (hs : ∀ k, k ≠ g → w'.heap[k]? = w.heap[k]?) : TextAt w' v t := by
  obtain ⟨ao, cap, rfl, h1, h2, h3⟩ := h.ex
  refine ⟨ao, cap, rfl, h1, h2, fun i hi => ?_⟩
  obtain ⟨b, ob, oo, e, hc⟩ := h3 i hi
  exact ⟨b, ob, oo, e, (World.cell?_of_block (w := w) (hs ob (hn ⟨ob, oo, none⟩ _ _ (by rw [e])))).trans hc⟩
theorem Own.setV {w : World} {base g n c j : Nat} {e : TypeId} {xs : List Value} {u : Value} (h : Own w base e (.slice (some ⟨g, 0, none⟩) n c) xs) (hn : xs.length = n) : Own (w.setCell ⟨g, j, none⟩ u) base e (.slice (some ⟨g, 0, none⟩) n c) (xs.set j u) := by
  have h2 : w.ownsRow base e 1 (.slice (some ⟨g, 0, none⟩) n c) n xs := by have := h; unfold Own at this; rw [hn] at this; exact this
  have h3 := (h2.stored j u).1
  unfold Own
  rw [List.length_set, hn]
  exact h3

structure WrapR (w wr : World) (g o n cq c : Nat) (va : Value) (V S : Nat → Nat) : Prop where
  row : ∃ vs : List Value, Own wr 0 29 (.slice (some ⟨g, 0, none⟩) (o + n) cq) vs ∧ vs.length = o + n ∧ ∀ i u, i < n → vs[o + i]? = some u → TextAt wr u (wordL S (i + 1)) ∧ NotIn u g
  a : TextAt wr va (bytesOf S 8) ∧ NotIn va g
  low : Below w.heap.size w wr
  far : w.heap.size ≤ g
  ref : ∃ wq : World, wq.heap.size ≤ g ∧ Below wq.heap.size wq wr ∧ RefAt wq c V
theorem WrapR.lt {w wr : World} {g o n cq c : Nat} {va : Value} {V S : Nat → Nat} (h : WrapR w wr g o n cq c va V S) : g < wr.heap.size := by
  obtain ⟨vs, h1, _⟩ := h.row
  exact (h1.lt g rfl).2
theorem WrapR.refAt {w wr : World} {g o n cq c : Nat} {va : Value} {V S : Nat → Nat} (h : WrapR w wr g o n cq c va V S) : RefAt wr c V := by
  obtain ⟨wq, h1, h2, h3⟩ := h.ref
  exact h3.below h2
theorem WrapR.below {w wr w' : World} {g o n cq c : Nat} {va : Value} {V S : Nat → Nat} (h : WrapR w wr g o n cq c va V S) (hB : Below wr.heap.size wr w') : WrapR w w' g o n cq c va V S := by
  obtain ⟨vs, h1, h2, h3⟩ := h.row
  obtain ⟨wq, q1, q2, q3⟩ := h.ref
  exact ⟨⟨vs, h1.below hB, h2, fun i u hi e => ⟨(h3 i u hi e).1.below hB, (h3 i u hi e).2⟩⟩, ⟨h.a.1.below hB, h.a.2⟩, h.low.trans (hB.mono h.low.size), h.far, wq, q1, q2.trans (hB.mono q2.size), q3⟩
/-- The row's cells. -/
theorem WrapR.cell {w wr : World} {g o n cq c : Nat} {va : Value} {V S : Nat → Nat} (h : WrapR w wr g o n cq c va V S) {i : Nat} (hi : i < n) : ∃ u, wr.cell? ⟨g, o + i, none⟩ = some u ∧ wr.frozen? ⟨g, o + i, none⟩ = false ∧ TextAt wr u (wordL S (i + 1)) := by
  obtain ⟨vs, h1, h2, h3⟩ := h.row
  obtain ⟨ao, cap, e, _, _, _, _, c5⟩ := h1.form
  have ev : vs[o + i]? = some (vs[o + i]'(by omega)) := List.getElem?_eq_getElem _
  obtain ⟨g', e2, hc, hf⟩ := c5 (o + i) _ ev
  injection e with e1
  rw [e2] at e1
  obtain rfl : g = g' := by injection e1 with e1; injection e1
  exact ⟨_, hc, hf, (h3 i _ hi ev).1⟩
theorem WrapR.texts {w wr : World} {g o n cq c : Nat} {va : Value} {V S : Nat → Nat} (h : WrapR w wr g o n cq c va V S) : TextsAt wr (some ⟨g, o, none⟩) ((List.range n).map fun i => wordL S (i + 1)) := fun i hi => by
  have hi2 : i < n := by simpa using hi
  obtain ⟨u, hc, _, ht⟩ := h.cell hi2
  obtain ⟨ai, ci, rfl, d1, d2, d3⟩ := ht.ex
  have eg : ((List.range n).map fun i => wordL S (i + 1)).getD i [] = wordL S (i + 1) := by simp [List.getD, hi2]
  rw [eg]
  exact ⟨g, o, rfl, ai, ci, hc, d1, d3, d2⟩
theorem WrapR.text1 {w wr : World} {g o n cq c : Nat} {va : Value} {V S : Nat → Nat} (h : WrapR w wr g o n cq c va V S) {i : Nat} (hi : i < n) : TextsAt wr (some ⟨g, o + i, none⟩) [wordL S (i + 1)] := fun k hk => by
  have hk0 : k = 0 := by simpa using hk
  subst hk0
  obtain ⟨u, hc, _, ht⟩ := h.cell hi
  obtain ⟨ai, ci, rfl, d1, d2, d3⟩ := ht.ex
  exact ⟨g, o + i, rfl, ai, ci, hc, d1, d3, d2⟩
/-- A word and the first eight bytes put. -/
theorem WrapR.put {w wr w3 : World} {g o n cq c : Nat} {va v2 u2 : Value} {V S y : Nat → Nat} {i : Nat} (h : WrapR w wr g o n cq c va V S) (hB : Below wr.heap.size wr w3) (hi : i < n)
    (ha : TextAt w3 v2 (bytesOf y 8)) (na : NotIn v2 g) (hu : TextAt w3 u2 (bytesOf (fun j => y (8 + j)) 8)) (nu : NotIn u2 g) :
    WrapR w (w3.setCell ⟨g, o + i, none⟩ u2) g o n cq c v2 V (wput S (i + 1) y) := by
  have hs : ∀ k, k ≠ g → (w3.setCell ⟨g, o + i, none⟩ u2).heap[k]? = w3.heap[k]? := fun k hk => heap_setCell_other _ _ _ _ hk
  obtain ⟨vs, h1, h2, h3⟩ := (h.below hB).row
  obtain ⟨wq, q1, q2, q3⟩ := (h.below hB).ref
  have ew : wordL (wput S (i + 1) y) (i + 1) = bytesOf (fun j => y (8 + j)) 8 := bytesOf_congr fun j hj => by
    unfold wput
    rw [if_neg (by omega), if_pos (by omega)]
    congr 1 <;> omega
  have e8 : bytesOf (wput S (i + 1) y) 8 = bytesOf y 8 := bytesOf_congr fun j hj => by unfold wput; rw [if_pos hj]
  refine ⟨⟨vs.set (o + i) u2, h1.setV h2, by rw [List.length_set, h2], fun k u hk e => ?_⟩, ⟨by rw [e8]; exact ha.aside na hs, na⟩, (h.below hB).low.setCell (p := ⟨g, o + i, none⟩) h.far _, h.far, wq, q1, q2.setCell (p := ⟨g, o + i, none⟩) q1 _, q3⟩
  by_cases hki : k = i
  · subst hki
    rw [List.getElem?_set_self (by omega)] at e
    cases e
    rw [ew]
    exact ⟨hu.aside nu hs, nu⟩
  · rw [List.getElem?_set_ne (by omega)] at e
    obtain ⟨t1, t2⟩ := h3 k u hk e
    have e3 : wordL (wput S (i + 1) y) (k + 1) = wordL S (k + 1) := bytesOf_congr fun j hj => by
      unfold wput
      rw [if_neg (by omega), if_neg (by omega)]
    rw [e3]
    exact ⟨t1.aside t2 hs, t2⟩
theorem join_blk (S : Nat → Nat) (i : Nat) : bytesOf S 8 ++ [wordL S i].flatten = tab (wblk S i) := by
  have a : bytesOf S 8 = bytesOf (wblk S i) 8 := bytesOf_congr fun j hj => by unfold wblk; rw [if_pos hj]
  have b : [wordL S i].flatten = bytesOf (fun j => wblk S i (8 + j)) 8 := by
    simp only [List.flatten_cons, List.flatten_nil, List.append_nil]
    refine bytesOf_congr fun j hj => ?_
    unfold wblk
    rw [if_neg (by omega)]
    congr 1; omega
  rw [a, b, ← bytesOf_add]
  rfl
theorem join_mix (S : Nat → Nat) (i M : Nat) : bytesOf (wmix S M) 8 ++ [wordL S i].flatten = tab (wmix (wblk S i) M) := by
  have a : bytesOf (wmix S M) 8 = bytesOf (wmix (wblk S i) M) 8 := bytesOf_congr fun j hj => by unfold wmix wblk; rw [if_pos hj, if_pos hj, if_pos hj]
  have b : [wordL S i].flatten = bytesOf (fun j => wmix (wblk S i) M (8 + j)) 8 := by
    simp only [List.flatten_cons, List.flatten_nil, List.append_nil]
    refine bytesOf_congr fun j hj => ?_
    unfold wmix wblk
    rw [if_neg (by omega), if_neg (by omega)]
    congr 1; omega
  rw [a, b, ← bytesOf_add]
  rfl
theorem words_flat (S : Nat → Nat) : ∀ n, ((List.range n).map fun i => wordL S (i + 1)).flatten = bytesOf (fun j => S (8 + j)) (8 * n)
  | 0 => rfl
  | n + 1 => by
    rw [List.range_succ, List.map_append, List.flatten_append, words_flat S n, show 8 * (n + 1) = 8 * n + 8 by omega, bytesOf_add]
    congr 1
    simp only [List.map_cons, List.map_nil, List.flatten_cons, List.flatten_nil, List.append_nil]
    refine bytesOf_congr fun j hj => ?_
    congr 1 <;> omega
theorem cut_lo (y : Nat → Nat) : (tab y).take 8 = bytesOf y 8 := by
  rw [show tab y = bytesOf y (8 + 8) from rfl, bytesOf_add, List.take_left' (length_bytesOf _ _)]
theorem cut_hi (y : Nat → Nat) : (tab y).drop 8 = bytesOf (fun j => y (8 + j)) 8 := by
  rw [show tab y = bytesOf y (8 + 8) from rfl, bytesOf_add, List.drop_left' (length_bytesOf _ _)]
end Go.Proofs.Ytnadgjlmlnhknaa
