/-
  ExtentApart, plainly: what of a field hangs on what tenant 1 asked alone. And two such fields in one world, beside two slices. Condition: the blocks are their own.
-/
import Derived.Test.YtjhfoddhpmmjoaaDoorDo17
import Derived.Test.YtjhfoddhpmmjoaaDoorOps17
import Derived.Test.YtjhfoddhpmmjoaaDoorRun
namespace Go.Proofs.YtjhfoddhpmmjoaaDoor
set_option maxRecDepth 100000
open Go.RowKit

/-- Tenant 1 holds just A, and has what it was admitted with. -/
structure Mine (n r : Nat) (L : Nat → Nat) (T : Nat → Ten) (W : Nat → Int) (A : List Nat) : Prop where
  ten : T 1 = ⟨true, r, r, A.length⟩
  nodup : A.Nodup
  held : ∀ a ∈ A, a < n ∧ L a = 1 ∧ W a = 1
section
variable {n r : Nat} {L L' : Nat → Nat} {T T' : Nat → Ten} {W W' : Nat → Int} {A : List Nat}
theorem isIn_one (h : T 1 = ⟨true, r, r, A.length⟩) : isIn T 1 = true := by
  show (decide (1 ≤ (1 : Int) ∧ (1 : Int) ≤ 8) && (T 1).on) = true
  rw [h]; rfl
theorem Mine.other (h : Mine n r L T W A) {p : Op17} {x : Nat} {E : Int} (d : DoRel p n L T W x E L' T' W') (hp : p.t ≠ 1) : Mine n r L' T' W' A := by
  refine ⟨(d.ten 1 (fun e => hp e.symm)).trans h.ten, h.nodup, fun a ha => ?_⟩
  obtain ⟨h1, h2, h3⟩ := h.held a ha
  obtain ⟨k1, k2⟩ := d.keep a (by omega) (by rw [h3]; exact fun e => hp e.symm)
  exact ⟨h1, k1.trans h2, k2.trans h3⟩
theorem Mine.takeE (h : Mine n r L T W A) : takeE n T 1 = if r ≤ A.length then 60 else 0 := by
  have hi := isIn_one h.ten
  unfold Go.Proofs.YtjhfoddhpmmjoaaDoor.takeE roomE
  rw [if_neg (by rw [hi]; decide)]
  have eq : (T (Int.toNat 1)).q = r := by show (T 1).q = r; rw [h.ten]
  have er : (T (Int.toNat 1)).r = r := by show (T 1).r = r; rw [h.ten]
  have ec : (T (Int.toNat 1)).c = A.length := by show (T 1).c = _; rw [h.ten]
  by_cases e : r ≤ A.length
  · rw [if_pos (by omega), if_pos e]
  · rw [if_neg (by omega), if_neg e, if_neg (by omega)]
/-- A Take of its own. -/
theorem Mine.take (h : Mine n r L T W A) {p : Op17} (pk : p.k = 3) (pt : p.t = 1) {x : Nat} {E : Int} (d : DoRel p n L T W x E L' T' W') :
    (r ≤ A.length ∧ E = 60 ∧ Mine n r L' T' W' A) ∨ (A.length < r ∧ E = 0 ∧ x < n ∧ Mine n r L' T' W' (A ++ [x])) := by
  have he := h.takeE
  by_cases e : r ≤ A.length
  · rw [if_pos e] at he
    obtain ⟨e1, rfl, rfl, rfl⟩ := d.no pk (by rw [pt, he]; decide)
    rw [pt, he] at e1
    exact .inl ⟨e, e1, h⟩
  · rw [if_neg e] at he
    obtain ⟨rfl, e2, e3, rfl, rfl, rfl⟩ := d.ok pk (by rw [pt, he])
    refine .inr ⟨by omega, rfl, e2, ?_, ?_, fun a ha => ?_⟩
    · rw [pt]
      show bumpT T 1 1 = _
      unfold bumpT
      rw [setT_same, h.ten, List.length_append]
      rfl
    · rw [List.nodup_append]
      refine ⟨h.nodup, by simp, fun a ha b hb => ?_⟩
      rw [List.mem_singleton] at hb
      subst hb
      intro e
      subst e
      have := (h.held a ha).2.1
      omega
    · rw [List.mem_append, List.mem_singleton] at ha
      by_cases ex : a = x
      · subst ex
        exact ⟨e2, up_same _ _ _, by rw [upI_same, pt]⟩
      · obtain ⟨h1, h2, h3⟩ := h.held a (ha.resolve_right ex)
        exact ⟨h1, (up_other _ _ ex).trans h2, (upI_other _ _ ex).trans h3⟩
/-- A Drop of what it holds. -/
theorem Mine.drop (h : Mine n r L T W A) {k : Nat} (hk : k < A.length) : dropE n L T 1 (A.getD k 0) = 0 ∧ Mine n r (dropL1 n L T 1 (A.getD k 0)) (dropT n L T 1 (A.getD k 0)) W (A.eraseIdx k) := by
  have eg : A.getD k 0 = A[k] := by simp [List.getD, hk]
  rw [eg]
  obtain ⟨h1, h2, h3⟩ := h.held A[k] (List.getElem_mem hk)
  have hi := isIn_one h.ten
  have e0 : dropE n L T 1 A[k] = 0 := by
    unfold dropE
    rw [if_neg (by omega), if_neg (by rw [hi]; decide), if_neg ?_]
    rintro (e | e)
    · omega
    · have e : (T 1).c = 0 := e
      rw [h.ten] at e
      simp only at e
      omega
  refine ⟨e0, ?_, ?_, fun a ha => ?_⟩
  · unfold dropT lessT
    rw [if_pos ⟨e0, h2⟩]
    show setT T 1 _ 1 = _
    rw [setT_same]
    show (⟨(T 1).on, (T 1).r, (T 1).q, (T 1).c - 1⟩ : Ten) = _
    rw [h.ten, List.length_eraseIdx, if_pos hk]
  · exact h.nodup.sublist (List.eraseIdx_sublist A k)
  · obtain ⟨i, hi, hne, rfl⟩ := List.mem_eraseIdx_iff_getElem.1 ha
    obtain ⟨a1, a2, a3⟩ := h.held A[i] (List.getElem_mem hi)
    refine ⟨a1, (dropL1_other (fun e => hne ?_)).trans a2, a3⟩
    exact (List.getElem_inj h.nodup).1 e
theorem Mine.charge (h : Mine n r L T W A) : chargeI T 1 = A.length := by
  unfold chargeI
  rw [isIn_one h.ten, if_pos rfl]
  show (T 1).c = _
  rw [h.ten]
theorem Mine.le (h : Mine n r L T W A) (g : Good n L T) : A.length ≤ r := by
  have := (g.lim 1).2.2
  rw [h.ten] at this
  exact this
end
/-- Admitted. -/
theorem Mine.begin {n r : Nat} (hr : r ≤ n) : admitE n (fun _ => Ten.no) 1 r r = 0 ∧ Mine n r (fun _ => 0) (admitT n (fun _ => Ten.no) 1 r r) (fun _ => 0) [] := by
  have s0 : sumA (fun _ => Ten.no) 9 = 0 := rfl
  have e0 : admitE n (fun _ => Ten.no) 1 r r = 0 := by
    unfold admitE
    rw [if_neg (by unfold badLim; rw [decide_eq_true_iff]; omega), if_neg (by simp [Ten.no]), if_neg (by rw [s0]; omega)]
  refine ⟨e0, ?_, List.nodup_nil, fun a ha => by simp at ha⟩
  unfold admitT
  rw [if_pos e0]
  show setT _ 1 _ 1 = _
  rw [setT_same]
  simp

/-! ### Two fields in one world -/
def InR (lo hi ob b rb rw rm wb : Nat) : Prop := ∀ k, Six ob b rb rw rm wb k → lo ≤ k ∧ k < hi
section
variable {w w' : World} {ob b rb rw rm wb n m m' : Nat} {L L' : Nat → Nat} {T T' : Nat → Ten} {W W' : Nat → Int}
theorem OwnF.stay (h : OwnF w ob b rb rw rm wb n m L T W) {S : Nat → Prop} (u : Upd S w w') (hs : ∀ k, Six ob b rb rw rm wb k → ¬ S k) : OwnF w' ob b rb rw rm wb n m L T W := by
  have h0 : ¬ S ob := hs _ (.inl rfl)
  have h1 : ¬ S wb := hs _ (.inr (.inl rfl))
  have h2 : ¬ S b := hs _ (.inr (.inr (by unfold Four; exact .inl rfl)))
  have h3 : ¬ S rb := hs _ (.inr (.inr (by unfold Four Three; simp)))
  have h4 : ¬ S rw := hs _ (.inr (.inr (by unfold Four Three; simp)))
  have h5 : ¬ S rm := hs _ (.inr (.inr (by unfold Four Three; simp)))
  exact ⟨⟨h.f.f.other (u.block _ h.f.f.lt h2), h.f.r.stay u h3 h4 h5, h.f.ne, h.f.good, h.f.small⟩, u.at h.o h0, u.at h.w h1, h.ne1, h.ne2, h.lo⟩
end
def u32x (A : List Nat) : List Value := A.map fun (a : Nat) => Value.int .u32 (a : Int)
theorem u32x_length (A : List Nat) : (u32x A).length = A.length := by simp [u32x]
theorem u32x_append (A : List Nat) (x : Nat) : u32x (A ++ [x]) = u32x A ++ [.int .u32 (x : Int)] := by simp [u32x]
theorem u32x_eraseIdx (A : List Nat) (k : Nat) : u32x (A.eraseIdx k) = (u32x A).eraseIdx k := by
  unfold u32x
  induction A generalizing k with
  | nil => rfl
  | cons a A ih =>
    cases k with
    | zero => rfl
    | succ k => simp [ih]
theorem u32x_get {A : List Nat} {k : Nat} (h : k < A.length) : (u32x A)[k]? = some (.int .u32 ((A.getD k 0 : Nat) : Int)) := by simp [u32x, h, List.getD]
/-- A field: where it lies. -/
structure Lie where
  ob : Nat
  b : Nat
  rb : Nat
  rw : Nat
  rm : Nat
  wb : Nat
def Lie.six (l : Lie) : Nat → Prop := Six l.ob l.b l.rb l.rw l.rm l.wb
def FieldR (w : World) (l : Lie) (m r : Nat) (A : List Nat) : Prop := ∃ L T W, OwnF w l.ob l.b l.rb l.rw l.rm l.wb 40 m L T W ∧ Mine 40 r L T W A
/-- Two fields and two slices. -/
structure Pair (w0 w : World) (z B0 : Nat) (l1 l2 : Lie) (r m : Nat) (A C : List Nat) (v1 v2 : Value) (X Y : List Nat) : Prop where
  one : FieldR w l1 m r A
  two : FieldR w l2 m r C
  in1 : ∀ k, l1.six k → w0.heap.size ≤ k ∧ k < z
  in2 : ∀ k, l2.six k → z ≤ k ∧ k < B0
  le0 : w0.heap.size ≤ z
  le1 : z ≤ B0
  run1 : Run w B0 34 v1 (u32x X)
  run2 : Run w B0 34 v2 (u32x Y)
  dj : ∀ k, v1.ownBlock = some k → v2.ownBlock ≠ some k
  low : Below w0.heap.size w0 w
  le : B0 ≤ w.heap.size
  tab : TabAt w
section
variable {w0 w w' : World} {z B0 r m m' : Nat} {l1 l2 : Lie} {A C A' C' X Y : List Nat} {v1 v2 v1' v2' : Value}
theorem FieldR.stay {l : Lie} (h : FieldR w l m r A) {S : Nat → Prop} (u : Upd S w w') (hs : ∀ k, l.six k → ¬ S k) (hm : m ≤ m') : FieldR w' l m' r A := by
  obtain ⟨L, T, W, h1, h2⟩ := h
  exact ⟨L, T, W, (h1.stay u hs).mono hm, h2⟩
theorem Pair.below (h : Pair w0 w z B0 l1 l2 r m A C v1 v2 X Y) (hB : Below w.heap.size w w') : Pair w0 w' z B0 l1 l2 r m A C v1 v2 X Y := by
  obtain ⟨L1, T1, W1, o1, q1⟩ := h.one
  obtain ⟨L2, T2, W2, o2, q2⟩ := h.two
  have hl := h.low
  exact ⟨⟨_, _, _, o1.below hB, q1⟩, ⟨_, _, _, o2.below hB, q2⟩, h.in1, h.in2, h.le0, h.le1, h.run1.below hB, h.run2.below hB, h.dj, hl.trans (hB.mono hl.size), Nat.le_trans h.le hB.size, h.tab.below (hB.mono (Nat.le_refl _))⟩
theorem Pair.drew (h : Pair w0 w z B0 l1 l2 r m A C v1 v2 X Y) : Pair w0 w.drew z B0 l1 l2 r m A C v1 v2 X Y := h.below (Below.refl _ _).drew
theorem Pair.mono (h : Pair w0 w z B0 l1 l2 r m A C v1 v2 X Y) (hm : m ≤ m') : Pair w0 w z B0 l1 l2 r m' A C v1 v2 X Y := by
  obtain ⟨L1, T1, W1, o1, q1⟩ := h.one
  obtain ⟨L2, T2, W2, o2, q2⟩ := h.two
  exact { h with one := ⟨_, _, _, o1.mono hm, q1⟩, two := ⟨_, _, _, o2.mono hm, q2⟩ }
theorem Pair.tabs {S : Nat → Prop} (h : Pair w0 w z B0 l1 l2 r m A C v1 v2 X Y) (u : Upd S w w') (hs : ∀ k, k < w0.heap.size → ¬ S k) (ht : TabAt w0) : Below w0.heap.size w0 w' ∧ TabAt w' := by
  have b := h.low.trans (u.below hs h.low.size)
  exact ⟨b, ht.below b⟩
theorem Pair.turn1 (h : Pair w0 w z B0 l1 l2 r m A C v1 v2 X Y) (ht : TabAt w0) (u : Upd l1.six w w') (hm : m ≤ m') (f : FieldR w' l1 m' r A') : Pair w0 w' z B0 l1 l2 r m' A' C v1 v2 X Y := by
  have hi1 := h.in1
  have hi2 := h.in2
  have hz := h.le1
  obtain ⟨b, t⟩ := h.tabs u (fun k hk e => by have := (hi1 k e).1; omega) ht
  refine ⟨f, h.two.stay u (fun k hk e => by have := hi1 k e; have := hi2 k hk; omega) hm, h.in1, h.in2, h.le0, h.le1, h.run1.other (fun k hk => ?_), h.run2.other (fun k hk => ?_), h.dj, b, Nat.le_trans h.le u.size, t⟩
  · have hk' := h.run1.lt k hk
    exact u.block k hk'.2 (fun e => by have := hi1 k e; omega)
  · have hk' := h.run2.lt k hk
    exact u.block k hk'.2 (fun e => by have := hi1 k e; omega)
theorem Pair.turn2 (h : Pair w0 w z B0 l1 l2 r m A C v1 v2 X Y) (ht : TabAt w0) (u : Upd l2.six w w') (hm : m ≤ m') (f : FieldR w' l2 m' r C') : Pair w0 w' z B0 l1 l2 r m' A C' v1 v2 X Y := by
  have hi1 := h.in1
  have hi2 := h.in2
  have hz := h.le0
  have hz1 := h.le1
  obtain ⟨b, t⟩ := h.tabs u (fun k hk e => by have := (hi2 k e).1; omega) ht
  refine ⟨h.one.stay u (fun k hk e => by have := hi1 k hk; have := hi2 k e; omega) hm, f, h.in1, h.in2, h.le0, h.le1, h.run1.other (fun k hk => ?_), h.run2.other (fun k hk => ?_), h.dj, b, Nat.le_trans h.le u.size, t⟩
  · have hk' := h.run1.lt k hk
    exact u.block k hk'.2 (fun e => by have := hi2 k e; omega)
  · have hk' := h.run2.lt k hk
    exact u.block k hk'.2 (fun e => by have := hi2 k e; omega)
/-- The first slice grew, or was cut. -/
theorem Pair.put1 {X' : List Nat} (h : Pair w0 w z B0 l1 l2 r m A C v1 v2 X Y) (ht : TabAt w0) (q : RunTo w B0 34 v1 (u32x X') v1' w') : Pair w0 w' z B0 l1 l2 r m A C v1' v2 X' Y := by
  have hi1 := h.in1
  have hi2 := h.in2
  have hz := h.le0
  have hz1 := h.le1
  obtain ⟨q1, q2, q3⟩ := q
  have u : Upd (fun k => v1.ownBlock = some k) w w' := ⟨q2.os, q2.tape, q2.output, q2.size, fun k hk hn => q2.block k hk (fun e => hn e.symm)⟩
  have lt1 := h.run1.lt
  have lt2 := h.run2.lt
  obtain ⟨b, t⟩ := h.tabs u (fun k hk e => by have := (lt1 k e).1; omega) ht
  refine ⟨h.one.stay u (fun k hk e => by have := hi1 k hk; have := lt1 k e; omega) (Nat.le_refl _), h.two.stay u (fun k hk e => by have := hi2 k hk; have := lt1 k e; omega) (Nat.le_refl _), h.in1, h.in2, h.le0, h.le1, q1, h.run2.other (fun k hk => u.block k (lt2 k hk).2 (fun e => h.dj k e hk)), fun k hk hk2 => ?_, b, Nat.le_trans h.le u.size, t⟩
  rcases q3 with q3 | ⟨g, q3, hg⟩
  · exact h.dj k (q3.symm.trans hk) hk2
  · rw [q3] at hk
    cases hk
    have := (lt2 _ hk2).2
    omega
theorem Pair.put2 {Y' : List Nat} (h : Pair w0 w z B0 l1 l2 r m A C v1 v2 X Y) (ht : TabAt w0) (q : RunTo w B0 34 v2 (u32x Y') v2' w') : Pair w0 w' z B0 l1 l2 r m A C v1 v2' X Y' := by
  have hi1 := h.in1
  have hi2 := h.in2
  have hz := h.le0
  have hz1 := h.le1
  obtain ⟨q1, q2, q3⟩ := q
  have u : Upd (fun k => v2.ownBlock = some k) w w' := ⟨q2.os, q2.tape, q2.output, q2.size, fun k hk hn => q2.block k hk (fun e => hn e.symm)⟩
  have lt1 := h.run1.lt
  have lt2 := h.run2.lt
  obtain ⟨b, t⟩ := h.tabs u (fun k hk e => by have := (lt2 k e).1; omega) ht
  refine ⟨h.one.stay u (fun k hk e => by have := hi1 k hk; have := lt2 k e; omega) (Nat.le_refl _), h.two.stay u (fun k hk e => by have := hi2 k hk; have := lt2 k e; omega) (Nat.le_refl _), h.in1, h.in2, h.le0, h.le1, h.run1.other (fun k hk => u.block k (lt1 k hk).2 (fun e => h.dj k hk e)), q1, fun k hk hk2 => ?_, b, Nat.le_trans h.le u.size, t⟩
  rcases q3 with q3 | ⟨g, q3, hg⟩
  · exact h.dj k hk (q3.symm.trans hk2)
  · rw [q3] at hk2
    cases hk2
    have := (lt1 _ hk).2
    omega
end
end Go.Proofs.YtjhfoddhpmmjoaaDoor
