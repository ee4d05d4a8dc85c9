/-
  ExtentApart: what its calls do to two fields and two slices in one world. Condition: the blocks are their own; the table of math/bits stands in the world.
-/
import Derived.Test.YtjhfoddhpmmjoaaDoorApartPlain17
import Derived.Test.YtjhfoddhpmmjoaaDoorLaw17
namespace Go.Proofs.YtjhfoddhpmmjoaaDoor
set_option maxRecDepth 100000
open Go.RowKit

section
variable {w0 w w' : World} {z B0 r m : Nat} {l1 l2 : Lie} {A C X Y : List Nat} {v1 v2 : Value}
theorem begin_lie (w : World) : Calls Tryd.prog 12 #[.int .i64 40] w fun e w' => ∃ l : Lie, (∀ k, l.six k → w.heap.size ≤ k ∧ k < w'.heap.size) ∧ e = .returned (.tuple #[.pointer (some ⟨l.ob, 0, none⟩), .bool true]) ∧
    OwnF w' l.ob l.b l.rb l.rw l.rm l.wb 40 0 (fun _ => 0) (fun _ => Ten.no) (fun _ => 0) ∧ Below w.heap.size w w' := by
  refine (begin17_ok w 40 (by decide) (by decide)).mono ?_
  rintro e w' ⟨ob, b, rb, rw_, rm, wb, g0, g1, g2, g3, g4, g5, rfl, hF, hB⟩
  refine ⟨⟨ob, b, rb, rw_, rm, wb⟩, fun k hk => ⟨?_, ?_⟩, rfl, hF, hB⟩
  · unfold Lie.six Six Four Three at hk
    simp only at hk
    omega
  · rcases hk with rfl | rfl | hk
    · exact lt_of_block hF.o
    · exact lt_of_block hF.w
    · exact hF.f.lts hk
theorem admit_lie {l : Lie} {L W} (h : OwnF w l.ob l.b l.rb l.rw l.rm l.wb 40 0 L (fun _ => Ten.no) W) (hL : L = fun _ => 0) (hW : W = fun _ => 0) (N : Nat) (hN : N ≤ 40) :
    Calls Tryd.prog 13 #[.pointer (some ⟨l.b, 0, none⟩), .int .i64 1, .int .i64 (N : Int), .int .i64 (N : Int)] w fun e w' => e = .returned (.int .i64 0) ∧ FieldR w' l 0 N [] ∧ Upd l.six w w' := by
  obtain ⟨e0, hM⟩ := Mine.begin hN
  refine (eadmit_any h.f 1 N N).mono ?_
  rintro e w' ⟨rfl, hF, U⟩
  rw [e0]
  subst hL hW
  exact ⟨rfl, ⟨_, _, _, h.turn hF U, hM⟩, upd_six_four U⟩
theorem Pair.cells (h : Pair w0 w z B0 l1 l2 r m A C v1 v2 X Y) : w.cell? ⟨l1.ob, 0, none⟩ = some (.pointer (some ⟨l1.b, 0, none⟩)) ∧ w.cell? ⟨l2.ob, 0, none⟩ = some (.pointer (some ⟨l2.b, 0, none⟩)) := by
  obtain ⟨L1, T1, W1, o1, q1⟩ := h.one
  obtain ⟨L2, T2, W2, o2, q2⟩ := h.two
  exact ⟨o1.o0, o2.o0⟩
theorem Pair.short (h : Pair w0 w z B0 l1 l2 r m A C v1 v2 X Y) : A.length ≤ r ∧ C.length ≤ r := by
  obtain ⟨L1, T1, W1, o1, q1⟩ := h.one
  obtain ⟨L2, T2, W2, o2, q2⟩ := h.two
  exact ⟨q1.le o1.f.good, q2.le o2.f.good⟩
theorem Pair.elem (h : Pair w0 w z B0 l1 l2 r m A C v1 v2 X Y) : (∀ k, k < A.length → A.getD k 0 < 40) ∧ (∀ k, k < C.length → C.getD k 0 < 40) := by
  obtain ⟨L1, T1, W1, o1, q1⟩ := h.one
  obtain ⟨L2, T2, W2, o2, q2⟩ := h.two
  refine ⟨fun k hk => ?_, fun k hk => ?_⟩
  · have e : A.getD k 0 = A[k] := by simp [List.getD, hk]
    rw [e]; exact (q1.held _ (List.getElem_mem hk)).1
  · have e : C.getD k 0 = C[k] := by simp [List.getD, hk]
    rw [e]; exact (q2.held _ (List.getElem_mem hk)).1
theorem other_pair (h : Pair w0 w z B0 l1 l2 r m A C v1 v2 X Y) (ht : TabAt w0) (hm : m < 1000000000) (p : Op17) (he : p.e < 4294967296) (hp : p.t ≠ 1) :
    Calls Tryd.prog 14 #[.pointer (some ⟨l2.ob, 0, none⟩), .agg p.cells.toArray] w fun e w' => (∃ (x : Nat) (E : Int), e = .returned (.tuple #[.int .u32 (x : Int), .int .i64 E])) ∧ Pair w0 w' z B0 l1 l2 r (m + 1) A C v1 v2 X Y := by
  obtain ⟨L2, T2, W2, o2, q2⟩ := h.two
  refine (do_any o2 h.tab hm p he).mono ?_
  rintro e w' ⟨x, E, L', T', W', rfl, hF, U, R⟩
  exact ⟨⟨x, E, rfl⟩, h.turn2 ht U (Nat.le_succ m) ⟨_, _, _, hF, q2.other R hp⟩⟩
theorem take_one (h : Pair w0 w z B0 l1 l2 r m A C v1 v2 X Y) (ht : TabAt w0) (hm : m < 1000000000) :
    Calls Tryd.prog 14 #[.pointer (some ⟨l1.ob, 0, none⟩), .agg #[.int .i64 3, .int .i64 1, .int .i64 0, .int .i64 0, .int .u32 0]] w fun e w' => ∃ (x : Nat) (E : Int) (A' : List Nat), e = .returned (.tuple #[.int .u32 (x : Int), .int .i64 E]) ∧
      ((r ≤ A.length ∧ E = 60 ∧ A' = A) ∨ (A.length < r ∧ E = 0 ∧ A' = A ++ [x])) ∧ Pair w0 w' z B0 l1 l2 r (m + 1) A' C v1 v2 X Y := by
  obtain ⟨L1, T1, W1, o1, q1⟩ := h.one
  refine (do_any o1 h.tab hm ⟨3, 1, 0, 0, 0⟩ (by show 0 < _; omega)).mono ?_
  rintro e w' ⟨x, E, L', T', W', rfl, hF, U, R⟩
  rcases q1.take rfl rfl R with ⟨a1, a2, a3⟩ | ⟨a1, a2, _, a3⟩
  · exact ⟨x, E, A, rfl, .inl ⟨a1, a2, rfl⟩, h.turn1 ht U (Nat.le_succ m) ⟨_, _, _, hF, a3⟩⟩
  · exact ⟨x, E, A ++ [x], rfl, .inr ⟨a1, a2, rfl⟩, h.turn1 ht U (Nat.le_succ m) ⟨_, _, _, hF, a3⟩⟩
theorem take_two (h : Pair w0 w z B0 l1 l2 r m A C v1 v2 X Y) (ht : TabAt w0) (hm : m < 1000000000) :
    Calls Tryd.prog 14 #[.pointer (some ⟨l2.ob, 0, none⟩), .agg #[.int .i64 3, .int .i64 1, .int .i64 0, .int .i64 0, .int .u32 0]] w fun e w' => ∃ (x : Nat) (E : Int) (C' : List Nat), e = .returned (.tuple #[.int .u32 (x : Int), .int .i64 E]) ∧
      ((r ≤ C.length ∧ E = 60 ∧ C' = C) ∨ (C.length < r ∧ E = 0 ∧ C' = C ++ [x])) ∧ Pair w0 w' z B0 l1 l2 r (m + 1) A C' v1 v2 X Y := by
  obtain ⟨L2, T2, W2, o2, q2⟩ := h.two
  refine (do_any o2 h.tab hm ⟨3, 1, 0, 0, 0⟩ (by show 0 < _; omega)).mono ?_
  rintro e w' ⟨x, E, L', T', W', rfl, hF, U, R⟩
  rcases q2.take rfl rfl R with ⟨a1, a2, a3⟩ | ⟨a1, a2, _, a3⟩
  · exact ⟨x, E, C, rfl, .inl ⟨a1, a2, rfl⟩, h.turn2 ht U (Nat.le_succ m) ⟨_, _, _, hF, a3⟩⟩
  · exact ⟨x, E, C ++ [x], rfl, .inr ⟨a1, a2, rfl⟩, h.turn2 ht U (Nat.le_succ m) ⟨_, _, _, hF, a3⟩⟩
theorem drop_mine (h : Pair w0 w z B0 l1 l2 r m A C v1 v2 X Y) (ht : TabAt w0) (hm : m < 1000000000) (k : Nat) (hk : k < A.length) (xa : Nat) (hxa : xa = A.getD k 0) :
    Calls Tryd.prog 15 #[.pointer (some ⟨l1.b, 0, none⟩), .int .i64 1, .int .u32 (xa : Int)] w fun e w' => e = .returned (.int .i64 0) ∧ Pair w0 w' z B0 l1 l2 r (m + 1) (A.eraseIdx k) C v1 v2 X Y := by
  obtain ⟨L1, T1, W1, o1, q1⟩ := h.one
  subst hxa
  have hx := h.elem.1 k hk
  obtain ⟨e0, hM⟩ := q1.drop hk
  refine (edrop_any o1.f hm 1 (A.getD k 0) (by omega)).mono ?_
  rintro e w' ⟨rfl, hF, U⟩
  rw [e0]
  exact ⟨rfl, h.turn1 ht (upd_six_four U) (Nat.le_succ m) ⟨_, _, _, o1.turn hF U, hM⟩⟩
theorem drop_his (h : Pair w0 w z B0 l1 l2 r m A C v1 v2 X Y) (ht : TabAt w0) (hm : m < 1000000000) (k : Nat) (hk : k < C.length) (xa : Nat) (hxa : xa = C.getD k 0) :
    Calls Tryd.prog 15 #[.pointer (some ⟨l2.b, 0, none⟩), .int .i64 1, .int .u32 (xa : Int)] w fun e w' => e = .returned (.int .i64 0) ∧ Pair w0 w' z B0 l1 l2 r (m + 1) A (C.eraseIdx k) v1 v2 X Y := by
  obtain ⟨L2, T2, W2, o2, q2⟩ := h.two
  subst hxa
  have hx := h.elem.2 k hk
  obtain ⟨e0, hM⟩ := q2.drop hk
  refine (edrop_any o2.f hm 1 (C.getD k 0) (by omega)).mono ?_
  rintro e w' ⟨rfl, hF, U⟩
  rw [e0]
  exact ⟨rfl, h.turn2 ht (upd_six_four U) (Nat.le_succ m) ⟨_, _, _, o2.turn hF U, hM⟩⟩
theorem charge_one (h : Pair w0 w z B0 l1 l2 r m A C v1 v2 X Y) :
    Calls Tryd.prog 16 #[.pointer (some ⟨l1.b, 0, none⟩), .int .i64 1] w fun e w' => e = .returned (.int .i64 ((A.length : Nat) : Int)) ∧ w = w' := by
  obtain ⟨L1, T1, W1, o1, q1⟩ := h.one
  have := echarge_any o1.f 1
  rwa [q1.charge] at this
theorem charge_two (h : Pair w0 w z B0 l1 l2 r m A C v1 v2 X Y) :
    Calls Tryd.prog 16 #[.pointer (some ⟨l2.b, 0, none⟩), .int .i64 1] w fun e w' => e = .returned (.int .i64 ((C.length : Nat) : Int)) ∧ w = w' := by
  obtain ⟨L2, T2, W2, o2, q2⟩ := h.two
  have := echarge_any o2.f 1
  rwa [q2.charge] at this
/-- Both are there. -/
theorem Pair.start {w1 w2 w3 w4 : World} (ht : TabAt w) (h1 : FieldR w3 l1 0 r []) (h2 : FieldR w4 l2 0 r []) (i1 : ∀ k, l1.six k → w.heap.size ≤ k ∧ k < w1.heap.size) (i2 : ∀ k, l2.six k → w1.heap.size ≤ k ∧ k < w2.heap.size)
    (B1 : Below w.heap.size w w1) (B2 : Below w1.heap.size w1 w2) (U3 : Upd l1.six w2 w3) (U4 : Upd l2.six w3 w4) : Pair w w4 w1.heap.size w4.heap.size l1 l2 r 0 [] [] (.slice none 0 0) (.slice none 0 0) [] [] := by
  have s1 := B1.size
  have s2 := B2.size
  have s3 := U3.size
  have s4 := U4.size
  have b2 : Below w.heap.size w w2 := B1.trans (B2.mono s1)
  have b3 : Below w.heap.size w w3 := b2.trans (U3.below (fun k hk e => by have := i1 k e; omega) b2.size)
  have b4 : Below w.heap.size w w4 := b3.trans (U4.below (fun k hk e => by have := i2 k e; omega) b3.size)
  exact ⟨h1.stay U4 (fun k hk e => by have := i1 k hk; have := i2 k e; omega) (Nat.le_refl _), h2, i1, fun k hk => by have := i2 k hk; omega, s1, by omega, Run.nil _ _ _, Run.nil _ _ _, fun k hk => by simp [Value.ownBlock] at hk, b4, Nat.le_refl _, ht.below b4⟩
end
end Go.Proofs.YtjhfoddhpmmjoaaDoor
