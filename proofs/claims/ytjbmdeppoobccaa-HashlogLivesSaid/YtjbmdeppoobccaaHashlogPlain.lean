/-
  A log of texts, plainly: those of one sum, and the first two unlike ones of one sum. No condition; no program in sight.
-/
import Derived.Test.YtjbmdeppoobccaaShaText
namespace Go.Proofs.Ytjbmdeppoobccaa

/-- The texts of a sum, in their order. -/
def bucket (T : List (List Nat)) (s : List Nat) : List (List Nat) := T.filter fun t => sumOf t == s
theorem mem_bucket {T : List (List Nat)} {s t : List Nat} : t ∈ bucket T s ↔ t ∈ T ∧ sumOf t = s := by
  unfold bucket
  rw [List.mem_filter, beq_iff_eq]
theorem bucket_snoc (T : List (List Nat)) (b s : List Nat) : bucket (T ++ [b]) s = if sumOf b = s then bucket T s ++ [b] else bucket T s := by
  unfold bucket
  rw [List.filter_append]
  by_cases h : sumOf b = s
  · rw [if_pos h, List.filter_cons, if_pos (beq_iff_eq.2 h)]; rfl
  · rw [if_neg h, List.filter_cons, if_neg (fun e => h (beq_iff_eq.1 e))]; exact List.append_nil _
/-- A text more, if it is not there. -/
def addT (T : List (List Nat)) (b : List Nat) : List (List Nat) := if b ∈ T then T else T ++ [b]
theorem addT_in {T : List (List Nat)} {b : List Nat} (h : b ∈ T) : addT T b = T := by unfold addT; rw [if_pos h]
theorem addT_out {T : List (List Nat)} {b : List Nat} (h : ¬ b ∈ T) : addT T b = T ++ [b] := by unfold addT; rw [if_neg h]
theorem mem_addT {T : List (List Nat)} {b t : List Nat} : t ∈ addT T b ↔ t ∈ T ∨ t = b := by
  by_cases h : b ∈ T
  · rw [addT_in h]
    exact ⟨Or.inl, fun k => k.elim id (fun e => e ▸ h)⟩
  · rw [addT_out h, List.mem_append, List.mem_singleton]
/-- The first text behind pre that has the sum of one ahead of it, and that one. -/
def clashF : List (List Nat) → List (List Nat) → Option (List Nat × List Nat)
  | _, [] => none
  | pre, t :: r => match bucket pre (sumOf t) with
    | k :: _ => some (k, t)
    | [] => clashF (pre ++ [t]) r
def clashOf (T : List (List Nat)) : Option (List Nat × List Nat) := clashF [] T
theorem clashF_snoc : ∀ (r pre : List (List Nat)) (b : List Nat), clashF pre (r ++ [b]) = match clashF pre r with
    | some c => some c
    | none => match bucket (pre ++ r) (sumOf b) with
      | k :: _ => some (k, b)
      | [] => none
  | [], pre, b => by
    rw [List.nil_append, List.append_nil]
    show (match bucket pre (sumOf b) with | k :: _ => some (k, b) | [] => clashF (pre ++ [b]) []) = _
    cases bucket pre (sumOf b) <;> rfl
  | t :: r, pre, b => by
    show (match bucket pre (sumOf t) with | k :: _ => some (k, t) | [] => clashF (pre ++ [t]) (r ++ [b])) = match (match bucket pre (sumOf t) with | k :: _ => some (k, t) | [] => clashF (pre ++ [t]) r) with
      | some c => some c
      | none => match bucket (pre ++ (t :: r)) (sumOf b) with
        | k :: _ => some (k, b)
        | [] => none
    cases bucket pre (sumOf t) with
    | cons k q => rfl
    | nil =>
      show clashF (pre ++ [t]) (r ++ [b]) = _
      rw [clashF_snoc r (pre ++ [t]) b, List.append_assoc]
      rfl
theorem clashOf_snoc (T : List (List Nat)) (b : List Nat) : clashOf (T ++ [b]) = match clashOf T with
    | some c => some c
    | none => match bucket T (sumOf b) with
      | k :: _ => some (k, b)
      | [] => none := by
  unfold clashOf
  rw [clashF_snoc]
  rfl
/-- What a clash is. -/
theorem clashF_spec : ∀ (r pre : List (List Nat)) (p q : List Nat), (pre ++ r).Nodup → clashF pre r = some (p, q) → p ∈ pre ++ r ∧ q ∈ pre ++ r ∧ p ≠ q ∧ sumOf p = sumOf q
  | [], pre, p, q, _, h => by simp [clashF] at h
  | t :: r, pre, p, q, hn, h => by
    have e : pre ++ t :: r = pre ++ [t] ++ r := by simp
    change (match bucket pre (sumOf t) with | k :: _ => some (k, t) | [] => clashF (pre ++ [t]) r) = some (p, q) at h
    cases hb : bucket pre (sumOf t) with
    | cons k l =>
      rw [hb] at h
      obtain ⟨rfl, rfl⟩ : k = p ∧ t = q := by simpa using h
      have hk : k ∈ bucket pre (sumOf t) := by rw [hb]; exact List.mem_cons_self
      obtain ⟨h1, h2⟩ := mem_bucket.1 hk
      refine ⟨List.mem_append_left _ h1, List.mem_append_right _ List.mem_cons_self, ?_, h2⟩
      rintro rfl
      exact absurd rfl ((List.nodup_append.1 hn).2.2 k h1 k List.mem_cons_self)
    | nil =>
      rw [hb] at h
      rw [e] at hn ⊢
      exact clashF_spec r (pre ++ [t]) p q hn h
theorem clashOf_spec {T : List (List Nat)} {p q : List Nat} (hn : T.Nodup) (h : clashOf T = some (p, q)) : p ∈ T ∧ q ∈ T ∧ p ≠ q ∧ sumOf p = sumOf q := clashF_spec T [] p q hn h
/-- Without a clash each sum has one text. -/
theorem clashF_none : ∀ (r pre : List (List Nat)), (∀ a ∈ pre, ∀ b ∈ pre, sumOf a = sumOf b → a = b) → clashF pre r = none → ∀ a ∈ pre ++ r, ∀ b ∈ pre ++ r, sumOf a = sumOf b → a = b
  | [], pre, hp, _ => by rw [List.append_nil]; exact hp
  | t :: r, pre, hp, h => by
    have e : pre ++ t :: r = pre ++ [t] ++ r := by simp
    change (match bucket pre (sumOf t) with | k :: _ => some (k, t) | [] => clashF (pre ++ [t]) r) = none at h
    cases hb : bucket pre (sumOf t) with
    | cons k l => rw [hb] at h; simp at h
    | nil =>
      rw [hb] at h
      rw [e]
      have hno : ∀ a ∈ pre, sumOf a ≠ sumOf t := fun a ha he => by
        have : a ∈ bucket pre (sumOf t) := mem_bucket.2 ⟨ha, he⟩
        rw [hb] at this
        simp at this
      refine clashF_none r (pre ++ [t]) (fun a ha b hb2 he => ?_) h
      rcases List.mem_append.1 ha with ha | ha <;> rcases List.mem_append.1 hb2 with hb2 | hb2
      · exact hp a ha b hb2 he
      · rw [List.mem_singleton.1 hb2] at he; exact absurd he (hno a ha)
      · rw [List.mem_singleton.1 ha] at he; exact absurd he.symm (hno b hb2)
      · rw [List.mem_singleton.1 ha, List.mem_singleton.1 hb2]
theorem clashOf_none {T : List (List Nat)} (h : clashOf T = none) : ∀ a ∈ T, ∀ b ∈ T, sumOf a = sumOf b → a = b := clashF_none T [] (by simp) h
theorem nodup_addT {T : List (List Nat)} (h : T.Nodup) (b : List Nat) : (addT T b).Nodup := by
  by_cases hb : b ∈ T
  · rw [addT_in hb]; exact h
  · rw [addT_out hb, List.nodup_append]
    exact ⟨h, by simp, fun a ha c hc => by rw [List.mem_singleton.1 hc]; rintro rfl; exact hb ha⟩
end Go.Proofs.Ytjbmdeppoobccaa
