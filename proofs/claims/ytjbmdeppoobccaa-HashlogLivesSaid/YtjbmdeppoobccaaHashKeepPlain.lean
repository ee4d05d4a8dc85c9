/-
  What a log keeps of texts that come one by one, plainly. No condition; no program in sight.
-/
import Derived.Test.YtjbmdeppoobccaaHashlogPlain
namespace Go.Proofs.Ytjbmdeppoobccaa

def keepTo (ls : List (List Nat)) : Nat → List (List Nat)
  | 0 => []
  | k + 1 => addT (keepTo ls k) (ls.getD k [])
theorem nodup_keep (ls : List (List Nat)) : ∀ k, (keepTo ls k).Nodup
  | 0 => List.nodup_nil
  | k + 1 => nodup_addT (nodup_keep ls k) _
theorem mem_keep (ls : List (List Nat)) (t : List Nat) : ∀ k, t ∈ keepTo ls k ↔ ∃ i, i < k ∧ ls.getD i [] = t
  | 0 => by simp [keepTo]
  | k + 1 => by
    unfold keepTo
    rw [mem_addT, mem_keep ls t k]
    constructor
    · rintro (⟨i, hi, e⟩ | rfl)
      · exact ⟨i, by omega, e⟩
      · exact ⟨k, by omega, rfl⟩
    · rintro ⟨i, hi, e⟩
      by_cases h : i = k
      · subst h; exact .inr e.symm
      · exact .inl ⟨i, by omega, e⟩
theorem length_addT (T : List (List Nat)) (t : List Nat) : (addT T t).length = if t ∈ T then T.length else T.length + 1 := by
  by_cases h : t ∈ T
  · rw [addT_in h, if_pos h]
  · rw [addT_out h, if_neg h]; simp
theorem length_keep (ls : List (List Nat)) : ∀ k, (keepTo ls k).length ≤ k
  | 0 => Nat.le_refl _
  | k + 1 => by
    unfold keepTo
    rw [length_addT]
    have := length_keep ls k
    split <;> omega
/-- The same, from the end. -/
def kepTo (ls : List (List Nat)) : Nat → List (List Nat)
  | 0 => []
  | k + 1 => addT (kepTo ls k) (ls.getD (ls.length - 1 - k) [])
theorem nodup_kep (ls : List (List Nat)) : ∀ k, (kepTo ls k).Nodup
  | 0 => List.nodup_nil
  | k + 1 => nodup_addT (nodup_kep ls k) _
theorem mem_kep (ls : List (List Nat)) (t : List Nat) : ∀ k, t ∈ kepTo ls k ↔ ∃ i, i < k ∧ ls.getD (ls.length - 1 - i) [] = t
  | 0 => by simp [kepTo]
  | k + 1 => by
    unfold kepTo
    rw [mem_addT, mem_kep ls t k]
    constructor
    · rintro (⟨i, hi, e⟩ | rfl)
      · exact ⟨i, by omega, e⟩
      · exact ⟨k, by omega, rfl⟩
    · rintro ⟨i, hi, e⟩
      by_cases h : i = k
      · subst h; exact .inr e.symm
      · exact .inl ⟨i, by omega, e⟩
theorem length_kep (ls : List (List Nat)) : ∀ k, (kepTo ls k).length ≤ k
  | 0 => Nat.le_refl _
  | k + 1 => by
    unfold kepTo
    rw [length_addT]
    have := length_kep ls k
    split <;> omega
theorem length_sub : ∀ (A B : List (List Nat)), A.Nodup → (∀ a ∈ A, a ∈ B) → A.length ≤ B.length
  | [], _, _, _ => Nat.zero_le _
  | a :: A, B, hn, hs => by
    obtain ⟨s, t, rfl⟩ := List.append_of_mem (hs a List.mem_cons_self)
    have hn' := List.nodup_cons.1 hn
    have := length_sub A (s ++ t) hn'.2 (fun x hx => by
      have h1 := hs x (List.mem_cons_of_mem _ hx)
      rcases List.mem_append.1 h1 with h1 | h1
      · exact List.mem_append_left _ h1
      · rcases List.mem_cons.1 h1 with rfl | h1
        · exact absurd hx hn'.1
        · exact List.mem_append_right _ h1)
    simp at this ⊢
    omega
theorem keep_kep (ls : List (List Nat)) : (keepTo ls ls.length).length = (kepTo ls ls.length).length := by
  refine Nat.le_antisymm (length_sub _ _ (nodup_keep _ _) fun a ha => ?_) (length_sub _ _ (nodup_kep _ _) fun a ha => ?_)
  · obtain ⟨i, hi, e⟩ := (mem_keep _ _ _).1 ha
    exact (mem_kep _ _ _).2 ⟨ls.length - 1 - i, by omega, by rw [show ls.length - 1 - (ls.length - 1 - i) = i by omega]; exact e⟩
  · obtain ⟨i, hi, e⟩ := (mem_kep _ _ _).1 ha
    exact (mem_keep _ _ _).2 ⟨ls.length - 1 - i, by omega, e⟩
end Go.Proofs.Ytjbmdeppoobccaa
