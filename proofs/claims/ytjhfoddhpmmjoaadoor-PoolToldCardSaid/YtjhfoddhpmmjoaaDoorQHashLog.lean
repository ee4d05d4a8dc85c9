/-
  hashlog's Log: New, made, Count, Sum, Has, Clash. Conditions: the log lies in blocks of its own; texts not too long.
-/
import Derived.Test.YtjhfoddhpmmjoaaDoorQHashEq
import Derived.Test.YtjhfoddhpmmjoaaDoorQOctetPut
import Derived.Test.YtjhfoddhpmmjoaaDoorQMapF
import Derived.Test.YtjhfoddhpmmjoaaDoorQShaBoth
import Derived.Test.YtjhfoddhpmmjoaaDoorQCmp
import Derived.DeepKeys4
import Derived.WalkSpells
namespace Go.Proofs.YtjhfoddhpmmjoaaDoor
set_option maxRecDepth 100000
open Go.RowKit Go.Maps

/-! ### The map's keys -/
theorem sumLaw : Keyed Tryd.prog 74 := Keyed.of_law (deep_law_laid (P := Tryd.prog) (by kernel_rfl) (m := 2) (by omega) (of_decide_eq_true (by kernel_rfl)) (by kernel_rfl) (by rw [Tryd.underlying74]))
theorem mapM_some {α β : Type} {f : α → Option β} : ∀ (l : List α), (∀ i ∈ l, ∃ y, f i = some y) → ∃ ys, l.mapM f = some ys
  | [], _ => ⟨[], rfl⟩
  | a :: l, h => by
    obtain ⟨y, hy⟩ := h a (by simp)
    obtain ⟨ys, hys⟩ := mapM_some l (fun i hi => h i (by simp [hi]))
    exact ⟨y :: ys, by simp [List.mapM_cons, hy, hys]⟩
theorem sum_key {s : List Nat} (hl : s.length = 32) (hs : ∀ x ∈ s, x < 256) : ∃ l, keyOf Tryd.prog 74 (.agg (u8s s)) = some l := by
  have h1 : Tryd.prog.keyType 74 = true := by kernel_rfl
  have hc : Tryd.prog.cellsOf 74 = 32 := by kernel_rfl
  have hc8 : Tryd.prog.cellsOf 5 = 1 := by kernel_rfl
  have h2 : (Value.agg (u8s s)).formed Tryd.prog 74 = true := by
    unfold Value.formed
    simp only [Tryd.underlying74]
    rw [hc]
    simp [u8s, hl]
  obtain ⟨m, hm⟩ : ∃ m, Tryd.prog.types.size + 1 = m + 1 + 1 := ⟨Tryd.prog.types.size - 1, by
    have : 0 < Tryd.prog.types.size := of_decide_eq_true (by kernel_rfl)
    omega⟩
  have h3 : ∃ ls, Tryd.prog.keyLits (Tryd.prog.types.size + 1) 74 (Value.agg (u8s s)).cells.toList = some ls := by
    rw [hm]
    show ∃ ls, Tryd.prog.keyLits (m + 1 + 1) 74 (u8s s).toList = some ls
    unfold Program.keyLits
    simp only [Tryd.underlying74]
    rw [if_pos (by rw [hc]; simp [u8s, hl])]
    obtain ⟨ys, hy⟩ := mapM_some (f := fun i => Tryd.prog.keyLits (m + 1) 5 (((u8s s).toList.drop (i * Tryd.prog.cellsOf 5)).take (Tryd.prog.cellsOf 5))) (List.range 32) (fun i hi => by
      have hi' := List.mem_range.1 hi
      have e : ((u8s s).toList.drop (i * Tryd.prog.cellsOf 5)).take (Tryd.prog.cellsOf 5) = [.int .u8 (byt s i : Int)] := by
        rw [hc8, Nat.mul_one]
        have hlen : i < (u8s s).toList.length := by simp [u8s, hl, hi']
        rw [List.drop_eq_getElem_cons hlen]
        simp [u8s, byt, List.getD, hl, hi']
      have hb := byt_lt hs i
      refine ⟨[.int .u8 (byt s i : Int)], ?_⟩
      show Tryd.prog.keyLits (m + 1) 5 _ = _
      rw [e]
      unfold Program.keyLits
      simp only [Tryd.underlying5]
      rw [if_pos]
      refine ⟨trivial, ?_⟩
      simp [Lit.wf, IntKind.min, IntKind.max, IntKind.signed, IntKind.bits]
      omega)
    exact ⟨ys.flatten, by rw [hy]; rfl⟩
  obtain ⟨ls, h3⟩ := h3
  unfold keyOf
  simp only [Tryd.underlying74]
  rw [if_pos (by rw [h1, h2]; rfl), h3]
  exact ⟨_, rfl⟩

/-! ### What a log keeps -/
/-- A text of the log's own, in blocks of F. -/
structure OwnT (w : World) (F : Nat → Prop) (v : Value) (t : List Nat) : Prop where
  own : Own w 0 5 v (u8l t)
  small : ∀ x ∈ t, x < 256
  inF : ∀ k, v.ownBlock = some k → F k
/-- A row of such texts. -/
structure RowT (w : World) (F : Nat → Prop) (v : Value) (ts : List (List Nat)) : Prop where
  ex : ∃ vs : List Value, Own w 0 85 v vs ∧ vs.length = ts.length ∧ ∀ (i : Nat) (u : Value) (t : List Nat), vs[i]? = some u → ts[i]? = some t → OwnT w F u t
  inF : ∀ k, v.ownBlock = some k → F k
structure LogMapC (w : World) (F : Nat → Prop) (mb : Nat) (T : List (List Nat)) (n : Nat) (C : Value → Option Value) : Prop where
  map : MapF Tryd.prog 74 w mb n C
  all : ∀ k v, C k = some v → ∃ s : List Nat, k = .agg (u8s s) ∧ s.length = 32 ∧ (∀ x ∈ s, x < 256) ∧ RowT w F v (bucket T s) ∧ bucket T s ≠ []
  has : ∀ t ∈ T, (C (.agg (u8s (sumOf t)))).isSome = true
  apart : ∀ k k' v v', C k = some v → C k' = some v' → k ≠ k' → v.ownBlock ≠ v'.ownBlock
  inF : F mb
def LogMap (w : World) (F : Nat → Prop) (mb : Nat) (T : List (List Nat)) : Prop := ∃ n C, LogMapC w F mb T n C
structure LogAt (w : World) (F : Nat → Prop) (b : Nat) (T : List (List Nat)) : Prop where
  ex : ∃ mb one two cl, w.heap[b]? = some (.cells #[.map (some mb), .int .i64 (T.length : Int), one, two, .bool cl] 139 (0, 0)) ∧ LogMap w F mb T ∧
    (match clashOf T with | none => cl = false | some (p, q) => cl = true ∧ OwnT w F one p ∧ OwnT w F two q)
  inF : F b
  nodup : T.Nodup

theorem Own.typed {w : World} {base k : Nat} {e : TypeId} {v : Value} {xs : List Value} (h : Own w base e v xs) (hk : v.ownBlock = some k) : ∃ cur, w.heap[k]? = some (.cells cur e (0, 0)) := by
  rcases h.2 with ⟨rfl, _⟩ | ⟨g, cap, cur, rfl, _, hg, _⟩
  · simp [Value.ownBlock] at hk
  · simp [Value.ownBlock] at hk
    subst hk
    exact ⟨cur, hg⟩
theorem OwnT.stay {w w' : World} {F : Nat → Prop} {v : Value} {t : List Nat} (h : OwnT w F v t) (hs : ∀ k, F k → k < w.heap.size → w'.heap[k]? = w.heap[k]?) : OwnT w' F v t :=
  ⟨h.own.other (fun k hk => hs k (h.inF k hk) (h.own.lt k hk).2), h.small, h.inF⟩
theorem OwnT.mono {w : World} {F G : Nat → Prop} {v : Value} {t : List Nat} (h : OwnT w F v t) (hG : ∀ k, F k → G k) : OwnT w G v t := ⟨h.own, h.small, fun k hk => hG k (h.inF k hk)⟩
theorem OwnT.text {w : World} {F : Nat → Prop} {v : Value} {t : List Nat} (h : OwnT w F v t) : TextAt w v t := h.own.text h.small
theorem RowT.stay {w w' : World} {F : Nat → Prop} {v : Value} {ts : List (List Nat)} (h : RowT w F v ts) (hs : ∀ k, F k → k < w.heap.size → w'.heap[k]? = w.heap[k]?) : RowT w' F v ts := by
  obtain ⟨vs, h1, h2, h3⟩ := h.ex
  exact ⟨⟨vs, h1.other (fun k hk => hs k (h.inF k hk) (h1.lt k hk).2), h2, fun i u t a b => (h3 i u t a b).stay hs⟩, h.inF⟩
theorem RowT.mono {w : World} {F G : Nat → Prop} {v : Value} {ts : List (List Nat)} (h : RowT w F v ts) (hG : ∀ k, F k → G k) : RowT w G v ts := by
  obtain ⟨vs, h1, h2, h3⟩ := h.ex
  exact ⟨⟨vs, h1, h2, fun i u t a b => (h3 i u t a b).mono hG⟩, fun k hk => hG k (h.inF k hk)⟩
theorem RowT.nil (w : World) (F : Nat → Prop) : RowT w F (.slice none 0 0) [] := ⟨⟨[], Own.nil _ _ _, rfl, fun i u t a _ => by simp at a⟩, fun k hk => by simp [Value.ownBlock] at hk⟩
theorem LogMapC.stay {w w' : World} {F : Nat → Prop} {mb n : Nat} {C : Value → Option Value} {T : List (List Nat)} (h : LogMapC w F mb T n C) (hs : ∀ k, F k → k < w.heap.size → w'.heap[k]? = w.heap[k]?) : LogMapC w' F mb T n C :=
  ⟨h.map.other (hs mb h.inF h.map.lt), fun k v hc => by
    obtain ⟨s, e1, e2, e3, e4, e5⟩ := h.all k v hc
    exact ⟨s, e1, e2, e3, e4.stay hs, e5⟩, h.has, h.apart, h.inF⟩
theorem LogMapC.mono {w : World} {F G : Nat → Prop} {mb n : Nat} {C : Value → Option Value} {T : List (List Nat)} (h : LogMapC w F mb T n C) (hG : ∀ k, F k → G k) : LogMapC w G mb T n C :=
  ⟨h.map, fun k v hc => by
    obtain ⟨s, e1, e2, e3, e4, e5⟩ := h.all k v hc
    exact ⟨s, e1, e2, e3, e4.mono hG, e5⟩, h.has, h.apart, hG mb h.inF⟩
theorem LogMap.stay {w w' : World} {F : Nat → Prop} {mb : Nat} {T : List (List Nat)} (h : LogMap w F mb T) (hs : ∀ k, F k → k < w.heap.size → w'.heap[k]? = w.heap[k]?) : LogMap w' F mb T := by
  obtain ⟨n, C, h⟩ := h
  exact ⟨n, C, h.stay hs⟩
theorem LogAt.stay {w w' : World} {F : Nat → Prop} {b : Nat} {T : List (List Nat)} (h : LogAt w F b T) (hs : ∀ k, F k → k < w.heap.size → w'.heap[k]? = w.heap[k]?) : LogAt w' F b T := by
  obtain ⟨mb, one, two, cl, h1, h2, h3⟩ := h.ex
  refine ⟨⟨mb, one, two, cl, (hs b h.inF (lt_of_block h1)).trans h1, h2.stay hs, ?_⟩, h.inF, h.nodup⟩
  cases hq : clashOf T with
  | none => rw [hq] at h3; exact h3
  | some c =>
    rw [hq] at h3
    exact ⟨h3.1, h3.2.1.stay hs, h3.2.2.stay hs⟩
theorem OwnT.tight {w : World} {F : Nat → Prop} {v : Value} {t : List Nat} (h : OwnT w F v t) : OwnT w (fun k => F k ∧ k < w.heap.size) v t := ⟨h.own, h.small, fun k hk => ⟨h.inF k hk, (h.own.lt k hk).2⟩⟩
theorem RowT.tight {w : World} {F : Nat → Prop} {v : Value} {ts : List (List Nat)} (h : RowT w F v ts) : RowT w (fun k => F k ∧ k < w.heap.size) v ts := by
  obtain ⟨vs, h1, h2, h3⟩ := h.ex
  exact ⟨⟨vs, h1, h2, fun i u t a b => (h3 i u t a b).tight⟩, fun k hk => ⟨h.inF k hk, (h1.lt k hk).2⟩⟩
theorem LogMapC.tight {w : World} {F : Nat → Prop} {mb n : Nat} {C : Value → Option Value} {T : List (List Nat)} (h : LogMapC w F mb T n C) : LogMapC w (fun k => F k ∧ k < w.heap.size) mb T n C :=
  ⟨h.map, fun k v hc => by
    obtain ⟨s, e1, e2, e3, e4, e5⟩ := h.all k v hc
    exact ⟨s, e1, e2, e3, e4.tight, e5⟩, h.has, h.apart, h.inF, h.map.lt⟩
/-- A log's blocks are there. -/
theorem LogAt.tight {w : World} {F : Nat → Prop} {b : Nat} {T : List (List Nat)} (h : LogAt w F b T) : LogAt w (fun k => F k ∧ k < w.heap.size) b T := by
  obtain ⟨mb, one, two, cl, h1, ⟨n, C, h2⟩, h3⟩ := h.ex
  refine ⟨⟨mb, one, two, cl, h1, ⟨n, C, h2.tight⟩, ?_⟩, ⟨h.inF, lt_of_block h1⟩, h.nodup⟩
  cases hq : clashOf T with
  | none => rw [hq] at h3; exact h3
  | some c =>
    rw [hq] at h3
    exact ⟨h3.1, h3.2.1.tight, h3.2.2.tight⟩
theorem LogAt.mono {w : World} {F G : Nat → Prop} {b : Nat} {T : List (List Nat)} (h : LogAt w F b T) (hG : ∀ k, F k → G k) : LogAt w G b T := by
  obtain ⟨mb, one, two, cl, h1, ⟨n, C, h2⟩, h3⟩ := h.ex
  refine ⟨⟨mb, one, two, cl, h1, ⟨n, C, h2.mono hG⟩, ?_⟩, hG b h.inF, h.nodup⟩
  cases hq : clashOf T with
  | none => rw [hq] at h3; exact h3
  | some c =>
    rw [hq] at h3
    exact ⟨h3.1, h3.2.1.mono hG, h3.2.2.mono hG⟩
theorem LogAt.below {w w' : World} {F : Nat → Prop} {b : Nat} {T : List (List Nat)} (h : LogAt w F b T) (hB : Below w.heap.size w w') : LogAt w' F b T := h.stay fun k _ hk => hB.block k hk
theorem LogAt.upd {w w' : World} {F S : Nat → Prop} {b : Nat} {T : List (List Nat)} (h : LogAt w F b T) (hU : Upd S w w') (hd : ∀ k, F k → ¬ S k) : LogAt w' F b T := h.stay fun k hF hk => hU.block k hk (hd k hF)
theorem LogAt.lt {w : World} {F : Nat → Prop} {b : Nat} {T : List (List Nat)} (h : LogAt w F b T) : b < w.heap.size := by
  obtain ⟨mb, one, two, cl, h1, h2, h3⟩ := h.ex
  exact lt_of_block h1

/-- A row of texts as a slice of slices. -/
theorem RowT.texts {w : World} {F : Nat → Prop} {v : Value} {ts : List (List Nat)} (h : RowT w F v ts) : ∃ ao cap, v = .slice ao ts.length cap ∧ ts.length ≤ cap ∧ (ao = none → cap = 0) ∧ TextsAt w ao ts := by
  obtain ⟨vs, h1, h2, h3⟩ := h.ex
  obtain ⟨ao, cap, e, c1, c2, c3, _, c5⟩ := h1.form
  rw [h2] at e c1 c3
  refine ⟨ao, cap, e, c1, fun hn => (c3 hn).2, fun i hi => ?_⟩
  have ev : vs[i]? = some vs[i] := List.getElem?_eq_getElem (by omega)
  have et : ts[i]? = some ts[i] := List.getElem?_eq_getElem hi
  obtain ⟨g, e2, hc, _⟩ := c5 i _ ev
  obtain ⟨ai, ci, e3, d1, d2, d3⟩ := (h3 i _ _ ev et).text.ex
  have eg : ts.getD i [] = ts[i] := by simp [List.getD, hi]
  rw [eg]
  exact ⟨g, 0, e2, ai, ci, by rw [Nat.zero_add, hc, e3], d1, d3, d2⟩

theorem u8s_inj {a b : List Nat} (h : u8s a = u8s b) : a = b := by
  have h2 := congrArg Array.toList h
  simp only [u8s] at h2
  exact (List.map_inj_right (fun x y e => by injection e with _ e; omega)).1 h2
/-- The row of a sum. -/
theorem LogMapC.row {w : World} {F : Nat → Prop} {mb n : Nat} {C : Value → Option Value} {T : List (List Nat)} (h : LogMapC w F mb T n C) (s : List Nat) : RowT w F ((C (.agg (u8s s))).getD (.slice none 0 0)) (bucket T s) := by
  cases hc : C (.agg (u8s s)) with
  | none =>
    have e : bucket T s = [] := List.eq_nil_iff_forall_not_mem.2 fun t ht => by
      obtain ⟨h1, h2⟩ := mem_bucket.1 ht
      have := h.has t h1
      rw [h2, hc] at this
      simp at this
    rw [e]
    exact RowT.nil w F
  | some v =>
    obtain ⟨s', e1, _, _, e4, _⟩ := h.all _ v hc
    obtain rfl : s = s' := u8s_inj (by injection e1)
    exact e4
theorem OwnT.ne_row {w : World} {F : Nat → Prop} {u v : Value} {t : List Nat} {vs : List Value} (h : OwnT w F u t) (hv : Own w 0 85 v vs) : ∀ k, u.ownBlock = some k → some k ≠ v.ownBlock := fun k hk e => by
  obtain ⟨c1, h1⟩ := h.own.typed hk
  obtain ⟨c2, h2⟩ := hv.typed e.symm
  rw [h1] at h2
  simp at h2
theorem MapF.ne_own {P : Program} {kt : TypeId} {w : World} {mb n : Nat} {C : Value → Option Value} {e : TypeId} {v : Value} {vs : List Value} {base : Nat} (h : MapF P kt w mb n C) (hv : Own w base e v vs) : ∀ k, v.ownBlock = some k → k ≠ mb := fun k hk ek => by
  obtain ⟨c2, h2⟩ := hv.typed hk
  obtain ⟨es, clock, h1, _⟩ := h.ex
  rw [ek, h1] at h2
  simp at h2

/-- A text's block stays, whatever row of texts grows and whatever map is turned. -/
theorem OwnT.through {wa w1 w2 : World} {F : Nat → Prop} {mb n : Nat} {C : Value → Option Value} {u v : Value} {t : List Nat} {vs : List Value} (h : OwnT wa F u t) (hvs : Own wa 0 85 v vs) (hm : MapF Tryd.prog 74 wa mb n C) (hg : wa.grownBy w1 v.ownBlock) (hU : Upd (fun i => i = mb) w1 w2) : OwnT w2 F u t := by
  refine ⟨(h.own.other fun k hk => ?_), h.small, h.inF⟩
  have k1 := h.own.lt k hk
  have n1 := h.ne_row hvs k hk
  have n2 := hm.ne_own h.own k hk
  exact (hU.block k (Nat.lt_of_lt_of_le k1.2 hg.size) n2).trans (hg.block k k1.2 n1)

/-- A log's own block is none of its texts'. -/
theorem OwnT.away {w : World} {F : Nat → Prop} {u : Value} {t : List Nat} {b : Nat} {c : Array Value} {fr : Nat × Nat} (h : OwnT w F u t) (hb : w.heap[b]? = some (.cells c 139 fr)) : OwnT w (fun k => F k ∧ k ≠ b) u t :=
  ⟨h.own, h.small, fun k hk => ⟨h.inF k hk, fun e => by
    obtain ⟨cur, q⟩ := h.own.typed hk
    rw [e, hb] at q
    simp at q⟩⟩
theorem RowT.away {w : World} {F : Nat → Prop} {v : Value} {ts : List (List Nat)} {b : Nat} {c : Array Value} {fr : Nat × Nat} (h : RowT w F v ts) (hb : w.heap[b]? = some (.cells c 139 fr)) : RowT w (fun k => F k ∧ k ≠ b) v ts := by
  obtain ⟨vs, h1, h2, h3⟩ := h.ex
  exact ⟨⟨vs, h1, h2, fun i u t a d => (h3 i u t a d).away hb⟩, fun k hk => ⟨h.inF k hk, fun e => by
    obtain ⟨cur, q⟩ := h1.typed hk
    rw [e, hb] at q
    simp at q⟩⟩
theorem LogMapC.away {w : World} {F : Nat → Prop} {mb n : Nat} {C : Value → Option Value} {T : List (List Nat)} {b : Nat} {c : Array Value} {fr : Nat × Nat} (h : LogMapC w F mb T n C) (hb : w.heap[b]? = some (.cells c 139 fr)) : LogMapC w (fun k => F k ∧ k ≠ b) mb T n C :=
  ⟨h.map, fun k v hc => by
    obtain ⟨s, e1, e2, e3, e4, e5⟩ := h.all k v hc
    exact ⟨s, e1, e2, e3, e4.away hb, e5⟩, h.has, h.apart, h.inF, fun e => by
    obtain ⟨es, clock, q, _⟩ := h.map.ex
    rw [e, hb] at q
    simp at q⟩
/-- A text more: appended to its sum's row, the row stored in the map. -/
theorem LogMapC.add {wa w1 w2 : World} {F : Nat → Prop} {mb n : Nat} {C : Value → Option Value} {T : List (List Nat)} {b : List Nat} {v v' own : Value} {vs : List Value} (h : LogMapC wa F mb T n C)
    (hv : v = (C (.agg (u8s (sumOf b)))).getD (.slice none 0 0)) (hvs : Own wa 0 85 v vs) (hl : vs.length = (bucket T (sumOf b)).length) (hel : ∀ (i : Nat) (u : Value) (t : List Nat), vs[i]? = some u → (bucket T (sumOf b))[i]? = some t → OwnT wa F u t)
    (ho : OwnT wa F own b) (h32 : (sumOf b).length = 32) (hs32 : ∀ x ∈ sumOf b, x < 256)
    (hv' : Own w1 0 85 v' (vs ++ [own])) (hg : wa.grownBy w1 v.ownBlock) (hb : v'.ownBlock = v.ownBlock ∨ ∃ g, v'.ownBlock = some g ∧ wa.heap.size ≤ g) (hF : ∀ k, v'.ownBlock = some k → F k)
    (hm : MapF Tryd.prog 74 w2 mb (if (C (.agg (u8s (sumOf b)))).isSome then n else n + 1) (updF C (.agg (u8s (sumOf b))) (some v'))) (hU : Upd (fun i => i = mb) w1 w2) :
    LogMapC w2 F mb (T ++ [b]) (if (C (.agg (u8s (sumOf b)))).isSome then n else n + 1) (updF C (.agg (u8s (sumOf b))) (some v')) := by
  -- a text's block stays
  have text : ∀ (u : Value) (t : List Nat), OwnT wa F u t → OwnT w2 F u t := fun u t hu => by
    refine ⟨(hu.own.other fun k hk => ?_), hu.small, hu.inF⟩
    have k1 := hu.own.lt k hk
    have n1 := hu.ne_row hvs k hk
    have n2 := h.map.ne_own hu.own k hk
    exact (hU.block k (Nat.lt_of_lt_of_le k1.2 hg.size) n2).trans (hg.block k k1.2 n1)
  have new : RowT w2 F v' (bucket T (sumOf b) ++ [b]) := by
    refine ⟨⟨vs ++ [own], hv'.other fun k hk => ?_, by simp [hl], fun i u t hu ht => ?_⟩, hF⟩
    · have hne : k ≠ mb := fun e => by
        obtain ⟨c2, h2⟩ := hv'.typed hk
        obtain ⟨es, clock, h1, _⟩ := h.map.ex
        rw [e] at h2
        have : some mb ≠ v.ownBlock := fun e2 => h.map.ne_own hvs mb e2.symm rfl
        rw [hg.block mb h.map.lt this, h1] at h2
        simp at h2
      exact hU.block k (hv'.lt k hk).2 hne
    · by_cases hi : i < vs.length
      · rw [List.getElem?_append_left hi] at hu
        rw [List.getElem?_append_left (by omega)] at ht
        exact text u t (hel i u t hu ht)
      · rw [List.getElem?_append_right (by omega)] at hu
        rw [List.getElem?_append_right (by omega)] at ht
        rw [hl] at hu
        obtain ⟨j, hj⟩ : ∃ j, j = i - (bucket T (sumOf b)).length := ⟨_, rfl⟩
        rw [← hj] at hu ht
        cases j with
        | zero =>
          simp at hu ht
          subst hu; subst ht
          exact text _ _ ho
        | succ j => simp at hu
  refine ⟨hm, fun k u hc => ?_, fun t ht => ?_, fun k k' u u' hc hc' hne => ?_, h.inF⟩
  · by_cases ek : k = .agg (u8s (sumOf b))
    · subst ek
      rw [updF_same] at hc
      cases hc
      refine ⟨sumOf b, rfl, h32, hs32, ?_, ?_⟩
      · rw [bucket_snoc, if_pos rfl]; exact new
      · rw [bucket_snoc, if_pos rfl]; simp
    · rw [updF_other ek] at hc
      obtain ⟨s, e1, e2, e3, ⟨⟨us, q1, q2, q3⟩, q4⟩, e5⟩ := h.all k u hc
      have es : sumOf b ≠ s := fun e => ek (by rw [e1, e])
      refine ⟨s, e1, e2, e3, ?_, by rw [bucket_snoc, if_neg es]; exact e5⟩
      rw [bucket_snoc, if_neg es]
      refine ⟨⟨us, q1.other fun j hj => ?_, q2, fun i x t a c => text x t (q3 i x t a c)⟩, q4⟩
      have k1 := q1.lt j hj
      have n2 := h.map.ne_own q1 j hj
      have n1 : some j ≠ v.ownBlock := fun e => by
        cases hC : C (.agg (u8s (sumOf b))) with
        | none => rw [hv, hC] at e; simp [Value.ownBlock] at e
        | some v0 =>
          rw [hv, hC] at e
          exact h.apart _ _ _ _ hc hC ek (hj.trans e)
      exact (hU.block j (Nat.lt_of_lt_of_le k1.2 hg.size) n2).trans (hg.block j k1.2 n1)
  · rcases List.mem_append.1 ht with ht | ht
    · by_cases ek : Value.agg (u8s (sumOf t)) = .agg (u8s (sumOf b))
      · rw [ek, updF_same]; rfl
      · rw [updF_other ek]; exact h.has t ht
    · rw [List.mem_singleton.1 ht, updF_same]; rfl
  · have main : ∀ k u, k ≠ Value.agg (u8s (sumOf b)) → C k = some u → u.ownBlock ≠ v'.ownBlock := fun k u ek hc e => by
      obtain ⟨s, e1, e2, e3, ⟨⟨us, q1, q2, q3⟩, q4⟩, e5⟩ := h.all k u hc
      have hpos : 0 < us.length := by rw [q2]; exact List.length_pos_iff.2 e5
      obtain ⟨j, hj⟩ : ∃ j, u.ownBlock = some j := by
        rcases q1.2 with ⟨_, h0⟩ | ⟨g, cap, cur, rfl, _⟩
        · omega
        · exact ⟨g, rfl⟩
      have k1 := q1.lt j hj
      rcases hb with hb | ⟨g, hb, hge⟩
      · rw [hj, hb] at e
        cases hC : C (.agg (u8s (sumOf b))) with
        | none => rw [hv, hC] at e; simp [Value.ownBlock] at e
        | some v0 =>
          rw [hv, hC] at e
          exact h.apart _ _ _ _ hc hC ek (hj.trans e)
      · rw [hj, hb] at e
        injection e with e
        omega
    by_cases ek : k = .agg (u8s (sumOf b))
    · subst ek
      rw [updF_same] at hc
      cases hc
      rw [updF_other (fun e => hne e.symm)] at hc'
      exact fun e => main k' u' (fun e2 => hne e2.symm) hc' e.symm
    · rw [updF_other ek] at hc
      by_cases ek' : k' = .agg (u8s (sumOf b))
      · subst ek'
        rw [updF_same] at hc'
        cases hc'
        exact main k u ek hc
      · rw [updF_other ek'] at hc'
        exact h.apart k k' u u' hc hc' hne

/-! ### New, made, Count -/
set_option maxRecDepth 100000 in
theorem lnew_any (w : World) :
    Calls Tryd.prog 69 #[] w fun e w' => ∃ b, e = .returned (.pointer (some ⟨b, 0, none⟩)) ∧ LogAt w' (fun k => w.heap.size ≤ k) b [] ∧ Below w.heap.size w w' := by
  have hmm := @run_makeMap Tryd.prog
  have h0 : ((w.alloc (.map #[] 0)).alloc (.cells #[.map (some w.heap.size), .int .i64 0, .slice none 0 0, .slice none 0 0, .bool false] 139)).heap[w.heap.size + 1]? = some (.cells #[.map (some w.heap.size), .int .i64 0, .slice none 0 0, .slice none 0 0, .bool false] 139 (0, 0)) := by
    rw [show w.heap.size + 1 = (w.alloc (.map #[] 0)).heap.size by simp]; exact heap_alloc_new _ _
  have h1 : ((w.alloc (.map #[] 0)).alloc (.cells #[.map (some w.heap.size), .int .i64 0, .slice none 0 0, .slice none 0 0, .bool false] 139)).heap[w.heap.size]? = some (.map #[] 0) := by
    rw [heap_alloc_old (h := by simp)]; exact heap_alloc_new _ _
  replace h0 := Lib.hid h0
  replace h1 := Lib.hid h1
  go_enter Tryd.func69, Tryd.ntmps69
  go_wp2_with fail
  go_ret
  refine ⟨_, rfl, ⟨⟨w.heap.size, _, _, _, h0.out, ⟨0, _, MapF.empty h1.out, fun k v h => by simp at h, fun t h => by simp at h, fun k k' v v' h => by simp at h, Nat.le_refl _⟩, rfl⟩, Nat.le_succ _, by simp⟩, ((Below.refl _ _).alloc (Nat.le_refl _) _).alloc (by simp) _⟩

set_option maxRecDepth 100000 in
theorem lmade_any {w : World} {F : Nat → Prop} {b : Nat} {T : List (List Nat)} (h : LogAt w F b T) :
    Calls Tryd.prog 81 #[.pointer (some ⟨b, 0, none⟩)] w fun e w' => e = .returned (.bool true) ∧ w = w' := by
  obtain ⟨mb, one, two, cl, h1, _⟩ := h.ex
  have c0 : w.cell? ⟨b, 0, none⟩ = some (.map (some mb)) := (cell_of_row _ _ 0 _ _ _ h1).trans rfl
  have hn := fun (x : World) => run_neq_map_nil (P := Tryd.prog) x 137 74 100 (some mb) Tryd.underlying137
  replace h := Lib.hid h
  replace h1 := Lib.hid h1
  go_enter Tryd.func81, Tryd.ntmps81
  go_wp2_with fail
  go_ret
  exact ⟨rfl, rfl⟩
end Go.Proofs.YtjhfoddhpmmjoaaDoor
