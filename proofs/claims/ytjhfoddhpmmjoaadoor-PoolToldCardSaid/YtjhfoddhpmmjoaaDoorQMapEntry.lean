/-
  'm[k], .. = v, ..': a map's entry is found or made first, and stored behind: what the map holds then. Condition: the keys are of a type whose keys are told apart. No program is in sight here.
-/
import Derived.Test.YtjhfoddhpmmjoaaDoorQMapF
import Derived.WideKeyEntry
namespace Go.Proofs.YtjhfoddhpmmjoaaDoor
open Go.RowKit Go.Maps Go.WideMaps Go.ChangeMaps Go.MapKept

section
variable {P : Program} {kt : TypeId} {w : World} {b n : Nat} {C : Value → Option Value}
theorem setBlock_same {w : World} {b : Nat} (hb : b < w.heap.size) (o : Obj) : (ChangeMaps.setBlock w b o).heap[b]? = some o := by simp [ChangeMaps.setBlock, hb]
theorem MapF.entry (h : MapF P kt w b n C) (K : Keyed P kt) {t et : TypeId} (ht : P.underlying t = some (.map kt et)) {x z : Value} {l : Lit} (hx : keyOf P kt x = some l) (hz : (zeroValue et).run P w = .ok z w) :
    ∃ (v0 : Value) (st : Nat) (es1 : Array MapEntry) (clock1 n' : Nat), (Instr.mapEntry t (.map (some b)) x).run P w = .ok (.tuple #[v0, goInt st]) (ChangeMaps.setBlock w b (.map es1 clock1)) ∧
      ∀ (w2 : World) (val : Value), w2.heap[b]? = some (.map es1 clock1) → ∃ o', (Instr.entryStore t (.map (some b)) (goInt st) val).run P w2 = .ok () (ChangeMaps.setBlock w2 b o') ∧ MapF P kt (ChangeMaps.setBlock w2 b o') b n' (updF C x (some val)) := by
  have hup := fun v => h.update (v := v) K ht hx
  obtain ⟨es, clock, h1, h2, h3, h4, h5⟩ := h.ex
  obtain ⟨s1, s2, _⟩ := h3
  have hlt := lt_of_block h1
  have fin : ∀ (w2 : World) (val : Value) (o' : Obj) (o1 : Obj), w2.heap[b]? = some o1 → (Instr.mapUpdate t (.map (some b)) x val).run P w = .ok () (ChangeMaps.setBlock w b o') → MapF P kt (ChangeMaps.setBlock w2 b o') b (if (C x).isSome then n else n + 1) (updF C x (some val)) := fun w2 val o' o1 hw2 hr => by
    obtain ⟨w', hr', hm, _⟩ := hup val
    have e : w' = ChangeMaps.setBlock w b o' := by rw [hr'] at hr; injection hr
    subst e
    refine hm.other ?_
    rw [setBlock_same hlt, setBlock_same (lt_of_block hw2)]
  rcases K.find w hx es.toList (fun e he => (h4 e he).1) with ⟨g1, g2⟩ | ⟨j, e0, g1, g2, g3⟩
  · refine ⟨z, clock, es.push ⟨x, z, clock⟩, clock + 1, _, ?_, fun w2 val hw2 => ⟨.map (es.push ⟨x, val, clock⟩) (clock + 1), ?_, fin w2 val _ _ hw2 ?_⟩⟩
    · simp [Instr.mapEntry, run_underlying ht, MapKept.run_getObj_map h1, K.check w false hx, g1, hz, MapKept.run_setObj_map _ h1, Result.andThen, ChangeMaps.setBlock]
    · have hidx : (es.push ⟨x, z, clock⟩).findIdx? (fun e => ((e.born : Nat) : Int) == ((clock : Nat) : Int)) = some es.size := by
        rw [WideElems.findIdx_arr]
        have := WideElems.findIdx_born (l := (es.push ⟨x, z, clock⟩).toList) (j := es.size) (e0 := ⟨x, z, clock⟩) (by
          simp only [Array.toList_push, List.map_append, List.map_cons, List.map_nil]
          refine List.nodup_append.2 ⟨s2, by simp, fun a ha c hc e1 => ?_⟩
          simp only [List.mem_singleton] at hc
          obtain ⟨y, hy, rfl⟩ := List.mem_map.1 ha
          have := s1 y hy
          omega) (by simp)
        exact this
      have hmod : (es.push ⟨x, z, clock⟩).modify es.size (fun e => { e with val := val }) = es.push ⟨x, val, clock⟩ := by
        apply Array.ext'
        rw [Array.toList_modify, Array.toList_push, Array.toList_push, ← Array.length_toList, WideElems.modify_last]
      simp [Instr.entryStore, MapKept.run_getObj_map hw2, asInt, asIntOf, goInt, hidx, hmod, MapKept.run_setObj_map _ hw2, Result.andThen, ChangeMaps.setBlock]
    · simp [Instr.mapUpdate, run_underlying ht, MapKept.run_getObj_map h1, K.check w false hx, g1, MapKept.run_setObj_map _ h1, Result.andThen, ChangeMaps.setBlock]
  · have hj : es[j]? = some e0 := by simpa using g2
    have hsame : es.modify j (fun e => { e with key := x }) = es := by
      apply Array.ext'
      rw [Array.toList_modify, modify_eq_set _ _ _ _ g2]
      have : ({ e0 with key := x } : MapEntry) = e0 := by rw [← g3]
      rw [this]
      exact WideElems.set_self _ _ _ g2
    refine ⟨e0.val, e0.born, es, clock, _, ?_, fun w2 val hw2 => ⟨.map (es.modify j (fun e' => { e' with key := x, val := val })) clock, ?_, fin w2 val _ _ hw2 ?_⟩⟩
    · simp [Instr.mapEntry, run_underlying ht, MapKept.run_getObj_map h1, K.check w false hx, g1, hj, g3, K.stays w hx, hsame, MapKept.run_setObj_map _ h1, Result.andThen, ChangeMaps.setBlock]
    · have hidx : es.findIdx? (fun e => ((e.born : Nat) : Int) == ((e0.born : Nat) : Int)) = some j := by
        rw [WideElems.findIdx_arr]
        exact WideElems.findIdx_born s2 g2
      have hmod : es.modify j (fun e => { e with val := val }) = es.modify j (fun e' => { e' with key := x, val := val }) := by
        apply Array.ext'
        rw [Array.toList_modify, Array.toList_modify, modify_eq_set _ _ _ _ g2, modify_eq_set _ _ _ _ g2, ← g3]
      simp [Instr.entryStore, MapKept.run_getObj_map hw2, asInt, asIntOf, goInt, hidx, hmod, MapKept.run_setObj_map _ hw2, Result.andThen, ChangeMaps.setBlock]
    · simp [Instr.mapUpdate, run_underlying ht, MapKept.run_getObj_map h1, K.check w false hx, g1, hj, g3, K.stays w hx, MapKept.run_setObj_map _ h1, Result.andThen, ChangeMaps.setBlock]
end
end Go.Proofs.YtjhfoddhpmmjoaaDoor
