/-
  A map's block as a function of its keys: what is found, stored, struck. Condition: the keys are of a type whose keys are told apart. No program is in sight here.
-/
import Derived.Test.YtjhfoddhpmmjoaaDoorQRowB
import Derived.Maps.Keyed
import Derived.Maps.Own
import Derived.WideKeyElems
namespace Go.Proofs.YtjhfoddhpmmjoaaDoor
open Go.RowKit Go.Maps Go.WideMaps Go.ChangeMaps Go.MapKept

open Classical in
/-- A function turned at one place. -/
noncomputable def updF (C : Value → Option Value) (x : Value) (o : Option Value) : Value → Option Value := fun k => if k = x then o else C k
theorem updF_same (C : Value → Option Value) (x : Value) (o : Option Value) : updF C x o x = o := by unfold updF; rw [if_pos rfl]
theorem updF_other {C : Value → Option Value} {x k : Value} {o : Option Value} (h : k ≠ x) : updF C x o k = C k := by unfold updF; rw [if_neg h]

theorem stamped_inj {es : Array MapEntry} {clock : Nat} (h : Stamped es clock) {i j : Nat} {a b : MapEntry} (hi : es.toList[i]? = some a) (hj : es.toList[j]? = some b) (e : a.key = b.key) : i = j := by
  have h3 := List.pairwise_iff_getElem.1 h.2.2
  obtain ⟨li, ei⟩ := List.getElem?_eq_some_iff.1 hi
  obtain ⟨lj, ej⟩ := List.getElem?_eq_some_iff.1 hj
  rcases Nat.lt_trichotomy i j with h1 | h1 | h1
  · exact absurd (by rw [List.getElem_map, List.getElem_map, ei, ej, e]) (h3 i j (by simpa using li) (by simpa using lj) h1)
  · exact h1
  · exact absurd (by rw [List.getElem_map, List.getElem_map, ei, ej, e]) (h3 j i (by simpa using lj) (by simpa using li) h1)
/-- A map of n entries at block b, that has what C says. -/
structure MapF (P : Program) (kt : TypeId) (w : World) (b n : Nat) (C : Value → Option Value) : Prop where
  ex : ∃ es clock, w.heap[b]? = some (.map es clock) ∧ es.size = n ∧ Stamped es clock ∧ (∀ e ∈ es.toList, (∃ l, keyOf P kt e.key = some l) ∧ C e.key = some e.val) ∧ (∀ k v, C k = some v → ∃ e ∈ es.toList, e.key = k ∧ e.val = v)
variable {P : Program} {kt : TypeId} {w w' : World} {b n : Nat} {C : Value → Option Value}
theorem MapF.other (h : MapF P kt w b n C) (e : w'.heap[b]? = w.heap[b]?) : MapF P kt w' b n C := by
  obtain ⟨es, clock, h1, h2⟩ := h.ex
  exact ⟨es, clock, e.trans h1, h2⟩
theorem MapF.lt (h : MapF P kt w b n C) : b < w.heap.size := by
  obtain ⟨es, clock, h1, h2⟩ := h.ex
  exact lt_of_block h1
theorem MapF.key (h : MapF P kt w b n C) {k v : Value} (hc : C k = some v) : ∃ l, keyOf P kt k = some l := by
  obtain ⟨es, clock, h1, h2, h3, h4, h5⟩ := h.ex
  obtain ⟨e, he, rfl, _⟩ := h5 k v hc
  exact (h4 e he).1
/-- None yet. -/
theorem MapF.empty (hb : w.heap[b]? = some (.map #[] 0)) : MapF P kt w b 0 (fun _ => none) :=
  ⟨#[], 0, hb, rfl, ⟨by simp, by simp, by simp⟩, fun e he => by simp at he, fun k v h => by simp at h⟩

theorem MapF.lookup (h : MapF P kt w b n C) (K : Keyed P kt) {t et : TypeId} (ht : P.underlying t = some (.map kt et)) {x : Value} {l : Lit} (hx : keyOf P kt x = some l) {z : Value} (hz : (zeroValue et).run P w = .ok z w) :
    (Instr.lookup t (.map (some b)) x false).run P w = .ok ((C x).getD z) w := by
  obtain ⟨es, clock, h1, h2, h3, h4, h5⟩ := h.ex
  rcases K.find w hx es.toList (fun e he => (h4 e he).1) with ⟨g1, g2⟩ | ⟨j, e, g1, g2, g3⟩
  · have hc : C x = none := by
      cases hq : C x with
      | none => rfl
      | some v =>
        obtain ⟨e, he, hk, _⟩ := h5 x v hq
        exact absurd hk (g2 e he)
    rw [hc]
    simp [Instr.lookup, run_underlying ht, MapKept.run_getObj_map h1, K.check w _ hx, g1, hz, Result.andThen]
  · have hc : C x = some e.val := by rw [← g3]; exact (h4 e (List.mem_of_getElem? g2)).2
    rw [hc]
    simp [Instr.lookup, run_underlying ht, MapKept.run_getObj_map h1, K.check w _ hx, g1, Result.andThen]
theorem MapF.lookup_ok (h : MapF P kt w b n C) (K : Keyed P kt) {t et : TypeId} (ht : P.underlying t = some (.map kt et)) {x : Value} {l : Lit} (hx : keyOf P kt x = some l) {z : Value} (hz : (zeroValue et).run P w = .ok z w) :
    (Instr.lookup t (.map (some b)) x true).run P w = .ok (.tuple #[(C x).getD z, .bool (C x).isSome]) w := by
  obtain ⟨es, clock, h1, h2, h3, h4, h5⟩ := h.ex
  rcases K.find w hx es.toList (fun e he => (h4 e he).1) with ⟨g1, g2⟩ | ⟨j, e, g1, g2, g3⟩
  · have hc : C x = none := by
      cases hq : C x with
      | none => rfl
      | some v =>
        obtain ⟨e, he, hk, _⟩ := h5 x v hq
        exact absurd hk (g2 e he)
    rw [hc]
    simp [Instr.lookup, run_underlying ht, MapKept.run_getObj_map h1, K.check w _ hx, g1, hz, Result.andThen]
  · have hc : C x = some e.val := by rw [← g3]; exact (h4 e (List.mem_of_getElem? g2)).2
    rw [hc]
    simp [Instr.lookup, run_underlying ht, MapKept.run_getObj_map h1, K.check w _ hx, g1, Result.andThen]

theorem setBlock_upd {es : Array MapEntry} {clock : Nat} (hb : w.heap[b]? = some (.map es clock)) (o' : Obj) : (ChangeMaps.setBlock w b o').heap[b]? = some o' ∧ Upd (fun i => i = b) w (ChangeMaps.setBlock w b o') := by
  have hlt := lt_of_block hb
  refine ⟨by simp [ChangeMaps.setBlock, hlt], ⟨rfl, rfl, rfl, by simp [ChangeMaps.setBlock], fun i hi hs => ?_⟩⟩
  exact ChangeMaps.heap_setBlock_other hb _ hs

theorem MapF.update (h : MapF P kt w b n C) (K : Keyed P kt) {t et : TypeId} (ht : P.underlying t = some (.map kt et)) {x v : Value} {l : Lit} (hx : keyOf P kt x = some l) :
    ∃ w', (Instr.mapUpdate t (.map (some b)) x v).run P w = .ok () w' ∧ MapF P kt w' b (if (C x).isSome then n else n + 1) (updF C x (some v)) ∧ Upd (fun i => i = b) w w' := by
  obtain ⟨es, clock, h1, h2, h3, h4, h5⟩ := h.ex
  rcases K.find w hx es.toList (fun e he => (h4 e he).1) with ⟨g1, g2⟩ | ⟨j, e, g1, g2, g3⟩
  · have hc : C x = none := by
      cases hq : C x with
      | none => rfl
      | some v =>
        obtain ⟨e, he, hk, _⟩ := h5 x v hq
        exact absurd hk (g2 e he)
    obtain ⟨q1, q2⟩ := setBlock_upd (w := w) h1 (.map (es.push ⟨x, v, clock⟩) (clock + 1))
    refine ⟨ChangeMaps.setBlock w b (.map (es.push ⟨x, v, clock⟩) (clock + 1)), ?_, ⟨_, _, q1, ?_, stamped_push h3 g2, ?_, ?_⟩, q2⟩
    · simp [Instr.mapUpdate, run_underlying ht, MapKept.run_getObj_map h1, K.check w false hx, g1, MapKept.run_setObj_map _ h1, Result.andThen, ChangeMaps.setBlock]
    · rw [hc]; simp [h2]
    · intro e he
      simp only [Array.toList_push, List.mem_append, List.mem_singleton] at he
      rcases he with he | rfl
      · exact ⟨(h4 e he).1, by rw [updF_other (g2 e he)]; exact (h4 e he).2⟩
      · exact ⟨⟨l, hx⟩, updF_same _ _ _⟩
    · intro k u hk
      by_cases e : k = x
      · subst e
        rw [updF_same] at hk
        cases hk
        exact ⟨⟨k, v, clock⟩, by simp, rfl, rfl⟩
      · rw [updF_other e] at hk
        obtain ⟨e', he', a1, a2⟩ := h5 k u hk
        exact ⟨e', by simp [Array.mem_toList_iff] at he' ⊢; exact Or.inl he', a1, a2⟩
  · have hj : es[j]? = some e := by simpa using g2
    have hmem : e ∈ es.toList := List.mem_of_getElem? g2
    have hc : C x = some e.val := by rw [← g3]; exact (h4 e hmem).2
    have hkeyf : ∀ e', es[j]? = some e' → ({ e' with key := x, val := v } : MapEntry).key = e'.key := fun e' he' => by rw [hj] at he'; cases he'; exact g3.symm
    obtain ⟨q1, q2⟩ := setBlock_upd (w := w) h1 (.map (es.modify j (fun e' => { e' with key := x, val := v })) clock)
    have hst := stamped_modify h3 j (fun e' => { e' with key := x, val := v }) (fun _ _ => rfl) (fun e' _ he' => hkeyf e' he')
    refine ⟨_, ?_, ⟨_, _, q1, ?_, hst, ?_, ?_⟩, q2⟩
    · simp [Instr.mapUpdate, run_underlying ht, MapKept.run_getObj_map h1, K.check w false hx, g1, hj, g3, K.stays w hx, MapKept.run_setObj_map _ h1, Result.andThen, ChangeMaps.setBlock]
    · rw [hc]; simp [h2]
    · intro a ha
      obtain ⟨i, hi⟩ := List.mem_iff_getElem?.1 ha
      rw [Array.toList_modify, List.getElem?_modify] at hi
      by_cases hij : j = i
      · subst hij
        rw [g2] at hi
        simp at hi
        subst hi
        exact ⟨⟨l, hx⟩, updF_same _ _ _⟩
      · simp [hij] at hi
        have ha' : a ∈ es.toList := List.mem_of_getElem? (by simpa using hi)
        have hne : a.key ≠ x := fun he => hij (by
          have hi' : es.toList[i]? = some a := by simpa using hi
          exact stamped_inj h3 g2 hi' (by rw [g3, he]))
        exact ⟨(h4 a ha').1, by rw [updF_other hne]; exact (h4 a ha').2⟩
    · intro k u hk
      by_cases ek : k = x
      · subst ek
        rw [updF_same] at hk
        cases hk
        refine ⟨{ e with key := k, val := v }, ?_, rfl, rfl⟩
        refine List.mem_of_getElem? (i := j) ?_
        rw [Array.toList_modify, List.getElem?_modify, g2]
        simp
      · rw [updF_other ek] at hk
        obtain ⟨e', he', a1, a2⟩ := h5 k u hk
        obtain ⟨i, hi⟩ := List.mem_iff_getElem?.1 he'
        refine ⟨e', List.mem_of_getElem? (i := i) ?_, a1, a2⟩
        rw [Array.toList_modify, List.getElem?_modify, hi]
        by_cases hij : j = i
        · subst hij
          rw [g2] at hi
          cases hi
          exact absurd (a1.symm.trans g3) ek
        · simp [hij]
end Go.Proofs.YtjhfoddhpmmjoaaDoor
