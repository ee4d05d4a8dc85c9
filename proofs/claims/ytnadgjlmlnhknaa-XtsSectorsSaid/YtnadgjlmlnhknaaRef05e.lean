/-
  The reference of layer 5: New. Conditions: a key of 32 bytes.
-/
import Derived.Test.YtnadgjlmlnhknaaRef05d
import Derived.Test.YtnadgjlmlnhknaaGfRef3
import Derived.Test.YtnadgjlmlnhknaaAesVec
namespace Go.Proofs.Ytnadgjlmlnhknaa
open Go.RowKit

/-! ### The words, plainly -/
theorem words_le (κ : Nat → Nat) {i : Nat} : ∀ j, i ≤ j → ∀ q, q < 4 * i → byt (wordsTo κ j) q = byt (wordsTo κ i) q
  | 0, h, q, hq => by omega
  | j + 1, h, q, hq => by
    by_cases e : i = j + 1
    · subst e; rfl
    · rw [byt_words_lo κ j (by omega)]
      exact words_le κ j (by omega) q hq
def wd (κ : Nat → Nat) (i : Nat) : List Nat := bytesOf (fun k => byt (wordsOf κ) (4 * i + k)) 4
theorem length_wd (κ : Nat → Nat) (i : Nat) : (wd κ i).length = 4 := length_bytesOf _ _
theorem wd_get (κ : Nat → Nat) {i k : Nat} (hi : i < 60) (hk : k < 4) : byt (wordsOf κ) (4 * i + k) = byt (nextW κ (wordsOf κ) i) k := by
  have e1 : byt (wordsOf κ) (4 * i + k) = byt (nextW κ (wordsTo κ i) i) k := (words_le κ (i := i + 1) 60 (by omega) (4 * i + k) (by omega)).trans (byt_words_hi κ i k)
  rw [e1, nextW_same (key := κ) (key' := κ) (L := wordsTo κ i) (L' := wordsOf κ) (fun _ _ => rfl) (fun q hq => (words_le κ 60 (by omega) q hq).symm)]
theorem wd_lo (κ : Nat → Nat) {i : Nat} (h8 : i < 8) : bytesOf (fun k => κ (4 * i + k)) 4 = wd κ i := bytesOf_congr fun k hk => by
  rw [wd_get κ (by omega) hk, nextW_lo _ _ h8, byt_range4 _ hk]
theorem wd_hi (κ : Nat → Nat) {i : Nat} (h8 : ¬ i < 8) (hi : i < 60) : bytesOf (xorF (wd κ (i - 8)) (bytesOf (powW (wordsOf κ) i) 4)) 4 = wd κ i := bytesOf_congr fun k hk => by
  rw [wd_get κ hi hk, nextW_hi _ _ h8, byt_range4 _ hk]
  unfold xorF wd
  rw [byt_bytesOf _ hk, byt_bytesOf _ hk]
theorem wd_prev (κ : Nat → Nat) (i : Nat) : wd κ (i - 1) = bytesOf (prevW (wordsOf κ) i) 4 := rfl
theorem wd_small {κ : Nat → Nat} (hs : ∀ i, κ i < 256) (i : Nat) : ∀ x ∈ wd κ i, x < 256 := bytesOf_lt fun _ _ => words_lt hs 60 _
theorem wordsT_wd (κ : Nat → Nat) : wordsT (byt (wordsOf κ)) = (List.range 60).map (wd κ) := rfl
theorem cut_bytes {t : List Nat} {lo n : Nat} (h : lo + n ≤ t.length) : (t.drop lo).take n = bytesOf (fun k => byt t (lo + k)) n := by
  apply List.ext_getElem?
  intro i
  by_cases hi : i < n
  · rw [List.getElem?_take_of_lt hi, List.getElem?_drop]
    simp [bytesOf, byt, List.getD, hi, show lo + i < t.length by omega]
  · rw [List.getElem?_eq_none (by simp; omega), List.getElem?_eq_none (by simp [bytesOf]; omega)]
theorem pow_bytes (L : List Nat) {i : Nat} (h : i % 8 = 0) : (bytesOf (boxW L i) 4).set 0 (boxW L i 0 ^^^ gpow 2 (i / 8 - 1)) = bytesOf (powW L i) 4 := by
  show [boxW L i 0 ^^^ gpow 2 (i / 8 - 1), boxW L i 1, boxW L i 2, boxW L i 3] = [powW L i 0, powW L i 1, powW L i 2, powW L i 3]
  unfold powW
  simp [h]
theorem rot_bytes (L : List Nat) {i : Nat} (h : i % 8 = 0) : [prevW L i 1, prevW L i 2, prevW L i 3, prevW L i 0] = bytesOf (rotW L i) 4 := by
  show _ = [rotW L i 0, rotW L i 1, rotW L i 2, rotW L i 3]
  unfold rotW
  simp [h]
theorem boxed_bytes (f : Nat → Nat) : bytesOf (fun k => gbox (byt (bytesOf f 4) k)) 4 = bytesOf (fun k => gbox (f k)) 4 := bytesOf_congr fun k hk => by rw [byt_bytesOf _ hk]

theorem pow_four (κ : Nat → Nat) {i : Nat} (h : i % 8 = 4) : bytesOf (fun k => gbox (byt (wd κ (i - 1)) k)) 4 = bytesOf (powW (wordsOf κ) i) 4 := bytesOf_congr fun k hk => by
  rw [wd_prev, byt_bytesOf _ hk]
  unfold powW boxW rotW
  rw [if_neg (by omega), if_pos (by omega), if_neg (by omega)]
theorem pow_else (κ : Nat → Nat) {i : Nat} (h0 : ¬ i % 8 = 0) (h4 : ¬ i % 8 = 4) : wd κ (i - 1) = bytesOf (powW (wordsOf κ) i) 4 := by
  rw [wd_prev]
  refine bytesOf_congr fun k hk => ?_
  unfold powW boxW rotW
  rw [if_neg (by omega), if_neg (by omega), if_neg (by omega)]
theorem box_zero (κ : Nat → Nat) {i : Nat} (h : i % 8 = 0) : bytesOf (fun k => gbox (byt [byt (wd κ (i - 1)) 1, byt (wd κ (i - 1)) 2, byt (wd κ (i - 1)) 3, byt (wd κ (i - 1)) 0] k)) 4 = bytesOf (boxW (wordsOf κ) i) 4 := by
  rw [wd_prev, byt_bytesOf _ (by decide), byt_bytesOf _ (by decide), byt_bytesOf _ (by decide), byt_bytesOf _ (by decide), rot_bytes _ h, boxed_bytes]
  refine bytesOf_congr fun k hk => ?_
  unfold boxW
  rw [if_pos (by omega)]

/-! ### What New keeps -/
theorem own_typed {w : World} {base k : Nat} {e : TypeId} {v : Value} {xs : List Value} (h : Own w base e v xs) (hk : v.ownBlock = some k) : ∃ cur, w.heap[k]? = some (.cells cur e (0, 0)) := by
  rcases h.2 with ⟨rfl, _⟩ | ⟨g, cap, cur, rfl, _, hg, _⟩
  · simp [Value.ownBlock] at hk
  · simp [Value.ownBlock] at hk
    subst hk
    exact ⟨cur, hg⟩
theorem own_apart {w : World} {b1 b2 : Nat} {v u : Value} {xs ys : List Value} (h : Own w b1 5 v xs) (k : Own w b2 29 u ys) : ∀ q, v.ownBlock = some q → some q ≠ u.ownBlock := fun q hq e => by
  obtain ⟨c1, h1⟩ := own_typed h hq
  obtain ⟨c2, h2⟩ := own_typed k e.symm
  rw [h1] at h2
  simp at h2
theorem Own.shape {w : World} {base : Nat} {e : TypeId} {v : Value} {xs : List Value} (h : Own w base e v xs) : ∃ a n c, v = .slice a n c := by
  obtain ⟨ao, cap, ev, _⟩ := h.form
  exact ⟨_, _, _, ev⟩
/-- A word of a cipher that is made: a part of the key, or of the call's own. -/
def Word (w wr : World) (c : Nat) (u : Value) (t : List Nat) : Prop := TextAt w u t ∨ (Own wr (c + 1) 5 u (u8l t) ∧ ∀ x ∈ t, x < 256)
theorem Word.text {w wr : World} {c : Nat} {u : Value} {t : List Nat} (h : Word w wr c u t) (hB : Below w.heap.size w wr) : TextAt wr u t := by
  rcases h with h | ⟨h, hs⟩
  · exact h.below hB
  · exact h.text hs
theorem Word.below {w wr w' : World} {c : Nat} {u : Value} {t : List Nat} (h : Word w wr c u t) (hB : Below wr.heap.size wr w') : Word w w' c u t := by
  rcases h with h | ⟨h, hs⟩
  · exact .inl h
  · exact .inr ⟨h.below hB, hs⟩
structure NewR (w wr : World) (c : Nat) (vw vb vk : Value) (κ : Nat → Nat) (n m : Nat) : Prop where
  row : wr.heap[c]? = some (.cells #[vw, vb, vk] 44 (0, 0))
  box : Own wr 0 5 vb (u8l (bytesOf gbox 256))
  boxc : ∀ k, vb.ownBlock = some k → k < c
  unb : Own wr (c + 1) 5 vk (u8l (bytesOf gunb n))
  words : ∃ vs : List Value, Own wr (c + 1) 29 vw vs ∧ vs.length = m ∧ ∀ (i : Nat) (u : Value), vs[i]? = some u → Word w wr c u (wd κ i)
  low : Below w.heap.size w wr
  far : w.heap.size ≤ c
theorem NewR.below {w wr w' : World} {c : Nat} {vw vb vk : Value} {κ : Nat → Nat} {n m : Nat} (h : NewR w wr c vw vb vk κ n m) (hB : Below wr.heap.size wr w') : NewR w w' c vw vb vk κ n m := by
  obtain ⟨vs, h1, h2, h3⟩ := h.words
  exact ⟨(hB.block c (lt_of_block h.row)).trans h.row, h.box.below hB, h.boxc, h.unb.below hB, ⟨vs, h1.below hB, h2, fun i u e => (h3 i u e).below hB⟩, h.low.trans (hB.mono h.low.size), h.far⟩
theorem NewR.begin {w w1 : World} {v8 : Value} (κ : Nat → Nat) (o : Own w1 w.heap.size 5 v8 (u8l (bytesOf gbox 256))) (B : Below w.heap.size w w1) :
    NewR w (w1.alloc (.cells #[.slice none 0 0, v8, .slice none 0 0] 44)) w1.heap.size (.slice none 0 0) v8 (.slice none 0 0) κ 0 0 :=
  ⟨heap_alloc_new _ _, (o.weaken (Nat.zero_le _)).alloc _, fun k hk => (o.lt k hk).2, Own.nil _ _ _, ⟨[], Own.nil _ _ _, rfl, fun i u e => by simp at e⟩, B.alloc B.size _, B.size⟩
theorem NewR.cell {w wr : World} {c : Nat} {vw vb vk : Value} {κ : Nat → Nat} {n m : Nat} (h : NewR w wr c vw vb vk κ n m) : wr.cell? ⟨c, 0, none⟩ = some vw ∧ wr.cell? ⟨c, 1, none⟩ = some vb ∧ wr.cell? ⟨c, 2, none⟩ = some vk :=
  ⟨(cell_of_row _ _ 0 _ _ _ h.row).trans rfl, (cell_of_row _ _ 1 _ _ _ h.row).trans rfl, (cell_of_row _ _ 2 _ _ _ h.row).trans rfl⟩
theorem NewR.putK {w wa w9 : World} {c : Nat} {vb vk v9 : Value} {κ : Nat → Nat} {n : Nat} (h : NewR w wa c (.slice none 0 0) vb vk κ n 0)
    (B9 : Below (c + 1) wa w9) (O9 : Own w9 (c + 1) 5 v9 (u8l (bytesOf gunb (n + 1)))) : NewR w (w9.setCell ⟨c, 2, none⟩ v9) c (.slice none 0 0) vb v9 κ (n + 1) 0 := by
  have hc := lt_of_block h.row
  have r9 := (B9.block c (Nat.lt_succ_self c)).trans h.row
  refine ⟨?_, ?_, h.boxc, ?_, ⟨[], Own.nil _ _ _, rfl, fun i u e => by simp at e⟩, ?_, h.far⟩
  · rw [heap_setCell_same _ _ _ _ _ _ r9]; rfl
  · exact h.box.other fun k hk => by
      have := h.boxc k hk
      rw [heap_setCell_other _ _ _ _ (show k ≠ c by omega)]
      exact B9.block k (by omega)
  · exact O9.other fun k hk => heap_setCell_other _ _ _ _ (by have := (O9.lt k hk).1; show k ≠ c; omega)
  · exact (h.low.trans (B9.mono (by have := h.far; omega))).setCell (p := ⟨c, 2, none⟩) h.far _
theorem NewR.putW {w wa w9 : World} {c : Nat} {vw vb vk v9 u : Value} {κ : Nat → Nat} {n m : Nat} {vs : List Value} (h : NewR w wa c vw vb vk κ n m) (hvs : Own wa (c + 1) 29 vw vs) (hm : vs.length = m)
    (hel : ∀ (i : Nat) (u : Value), vs[i]? = some u → Word w wa c u (wd κ i)) (hu : Word w wa c u (wd κ m)) (B9 : Below (c + 1) wa w9) (G9 : wa.grownBy w9 vw.ownBlock) (O9 : Own w9 (c + 1) 29 v9 (vs ++ [u])) :
    NewR w (w9.setCell ⟨c, 0, none⟩ v9) c v9 vb vk κ n (m + 1) := by
  have hc := lt_of_block h.row
  have r9 := (B9.block c (Nat.lt_succ_self c)).trans h.row
  have keepO : ∀ {v : Value} {xs : List Value}, Own wa (c + 1) 5 v xs → Own (w9.setCell ⟨c, 0, none⟩ v9) (c + 1) 5 v xs := fun {v xs} hv => hv.other fun k hk => by
    have h1 := hv.lt k hk
    rw [heap_setCell_other _ _ _ _ (show k ≠ c by omega)]
    exact G9.block k h1.2 (own_apart hv hvs k hk)
  have keepW : ∀ {v : Value} {t : List Nat}, Word w wa c v t → Word w (w9.setCell ⟨c, 0, none⟩ v9) c v t := fun {v t} hv => by
    rcases hv with hv | ⟨hv, hs⟩
    · exact .inl hv
    · exact .inr ⟨keepO hv, hs⟩
  refine ⟨?_, ?_, h.boxc, keepO h.unb, ⟨vs ++ [u], ?_, by simp [hm], fun i x e => ?_⟩, ?_, h.far⟩
  · rw [heap_setCell_same _ _ _ _ _ _ r9]; rfl
  · exact h.box.other fun k hk => by
      have := h.boxc k hk
      rw [heap_setCell_other _ _ _ _ (show k ≠ c by omega)]
      exact B9.block k (by omega)
  · exact O9.other fun k hk => heap_setCell_other _ _ _ _ (by have := (O9.lt k hk).1; show k ≠ c; omega)
  · by_cases hi : i < vs.length
    · rw [List.getElem?_append_left hi] at e
      exact keepW (hel i x e)
    · have hi2 : i = vs.length := by
        have := (List.getElem?_eq_some_iff.1 e).1
        simp at this; omega
      rw [hi2, List.getElem?_append_right (Nat.le_refl _), Nat.sub_self] at e
      obtain rfl : u = x := by simpa using e
      rw [hi2, hm]
      exact keepW hu
  · exact (h.low.trans (B9.mono (by have := h.far; omega))).setCell (p := ⟨c, 0, none⟩) h.far _
theorem NewR.done {w wr : World} {c : Nat} {vw vb vk : Value} {κ : Nat → Nat} (h : NewR w wr c vw vb vk κ 256 60) : ∃ aw cw, RefC wr c aw cw vb vk (byt (wordsOf κ)) := by
  obtain ⟨vs, h1, h2, h3⟩ := h.words
  obtain ⟨ao, cap, e, c1, _, _, _, c5⟩ := h1.form
  refine ⟨ao, cap, ?_, ?_, h.box.text (bytesOf_lt fun i hi => gbox_lt hi), h.unb.text (bytesOf_lt fun i hi => gunb_lt hi)⟩
  · have r := h.row
    rw [e, h2] at r
    exact r
  · rw [wordsT_wd]
    intro i hi
    have hi60 : i < 60 := by simpa using hi
    have ev : vs[i]? = some vs[i] := List.getElem?_eq_getElem (by omega)
    obtain ⟨g, e2, hc, _⟩ := c5 i _ ev
    obtain ⟨ai, ci, e3, d1, d2, d3⟩ := ((h3 i _ ev).text h.low).ex
    have eg : ((List.range 60).map (wd κ)).getD i [] = wd κ i := by simp [List.getD, hi60]
    rw [eg]
    exact ⟨g, 0, e2, ai, ci, by rw [Nat.zero_add, hc, e3], d1, d3, d2⟩
theorem below_grown {wa w9 : World} {base : Nat} {e : TypeId} {v : Value} {xs : List Value} (h : Own wa base e v xs) (hb : base ≤ wa.heap.size) (G : wa.grownBy w9 v.ownBlock) : Below base wa w9 :=
  ⟨G.os, G.tape, G.output, G.size, fun k hk => G.block k (by omega) fun e => by have := (h.lt k e.symm).1; omega⟩
theorem Own.setU {w : World} {base g n c i x : Nat} {t : List Nat} (h : Own w base 5 (.slice (some ⟨g, 0, none⟩) n c) (u8l t)) (hn : n = t.length) : Own (w.setCell ⟨g, i, none⟩ (.int .u8 (x : Int))) base 5 (.slice (some ⟨g, 0, none⟩) n c) (u8l (t.set i x)) := by
  have e : (u8l t).length = n := by rw [hn]; simp [u8l]
  have h2 : w.ownsRow base 5 1 (.slice (some ⟨g, 0, none⟩) n c) n (u8l t) := by have := h; unfold Own at this; rw [e] at this; exact this
  have h3 := (h2.stored i (.int .u8 (x : Int))).1
  have e2 : (u8l t).set i (.int .u8 (x : Int)) = u8l (t.set i x) := by simp [u8l, List.map_set]
  rw [e2] at h3
  unfold Own
  rw [show (u8l (t.set i x)).length = n by rw [hn]; simp [u8l]]
  exact h3
end Go.Proofs.Ytnadgjlmlnhknaa
