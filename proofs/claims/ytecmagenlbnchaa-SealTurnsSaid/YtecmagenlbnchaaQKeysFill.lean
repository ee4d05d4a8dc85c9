/-
  A struct of arrays of bytes, built of its parts. No condition; no program in sight but for the slot's type.
-/
import Derived.Test.YtecmagenlbnchaaQOctetPut
import Derived.Great.FillDense
import Derived.Laws.Tables
namespace Go.Proofs.Ytecmagenlbnchaa
set_option maxRecDepth 100000
open Go.RowKit

theorem getElem_u8s (l : List Nat) (k : Nat) : (u8s l)[k]? = (l[k]?).map fun (n : Nat) => Value.int .u8 (n : Int) := by simp [u8s]
theorem size_u8s (l : List Nat) : (u8s l).size = l.length := by simp [u8s]
/-- One part put. -/
theorem fill_put (place : Nat → Option (Nat × Nat)) (i off : Nat) (L a : List Nat) (rest : List (Nat × Value)) (hp : place i = some (off, a.length)) (hle : off + a.length ≤ L.length) :
    Instr.fill place (u8s L) ((i, .agg (u8s a)) :: rest) = Instr.fill place (u8s (L.take off ++ (a ++ L.drop (off + a.length)))) rest := by
  have e : (Value.agg (u8s a)).cells = u8s a := rfl
  conv => lhs; unfold Instr.fill
  simp only [hp, e, size_u8s]
  rw [if_neg (by simp; omega)]
  congr 1
  rw [← Array.foldl_toList, Array.toList_zipIdx]
  obtain ⟨h1, h2⟩ := Go.Great.foldl_set off (u8s a).toList 0 (u8s L)
  apply Array.ext_getElem?
  intro k
  refine (h2 k).trans ?_
  simp only [Nat.add_zero, Array.length_toList, size_u8s]
  by_cases hk : off ≤ k ∧ k < off + a.length
  · rw [if_pos ⟨hk.1, hk.2, by omega⟩, getElem_u8s, List.getElem?_append_right (by simp; omega), List.getElem?_append_left (by simp; omega)]
    rw [show k - (L.take off).length = k - off by simp; omega]
    simp [u8s]
  · rw [if_neg (by omega), getElem_u8s, getElem_u8s]
    congr 1
    by_cases h3 : k < off
    · rw [List.getElem?_append_left (by simp; omega), List.getElem?_take_of_lt h3]
    · rw [List.getElem?_append_right (by simp; omega), List.getElem?_append_right (by simp; omega), List.getElem?_drop]
      congr 1
      simp; omega
set_option maxRecDepth 100000 in
/-- A slot's literal, salt and check said. -/
theorem built_slot {a b : List Nat} (ha : a.length = 32) (hb : b.length = 32) : Try.prog.built 51 [(0, .agg (u8s a)), (1, .agg (u8s b))] = some (u8s (a ++ (b ++ List.replicate 40 0))) := by
  obtain ⟨it, hit, hz⟩ : ∃ it, Try.prog.info? 51 = some it ∧ it.zero = some (.agg (u8s (List.replicate 104 0))) := by
    have h : (Try.prog.info? 51).bind (·.zero) = some (.agg (u8s (List.replicate 104 0))) := by kernel_rfl
    cases hq : Try.prog.info? 51 with
    | none => rw [hq] at h; simp at h
    | some it => rw [hq] at h; exact ⟨it, rfl, h⟩
  obtain ⟨fields, hu, hf⟩ : ∃ fields, Try.prog.underlying 51 = some (.struct fields) ∧ fields.toList.mapM (fun f => (Try.prog.info? f.type).map fun i => (f.offset, i.size)) = some [(0, 32), (32, 32), (64, 40)] := by
    have h := Try.underlying51
    exact ⟨_, h, by kernel_rfl⟩
  unfold Program.built
  simp only [hit, hu, hz, hf]
  show Instr.fill _ (u8s (List.replicate 104 0)) _ = _
  rw [fill_put _ 0 0 _ a _ (by rw [ha]; rfl) (by simp [ha])]
  rw [fill_put _ 1 32 _ b _ (by rw [hb]; rfl) (by simp [ha, hb])]
  simp only [Instr.fill]
  congr 2
  apply List.ext_getElem?
  intro k
  simp [ha, hb, List.drop_append, List.drop_eq_nil_of_le (show a.length ≤ 64 by omega)]
end Go.Proofs.Ytecmagenlbnchaa
