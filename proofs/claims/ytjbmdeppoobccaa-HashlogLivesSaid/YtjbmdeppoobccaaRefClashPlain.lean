/-
  The first clash of a list of texts, as a double loop finds it. No condition; no program in sight.
-/
import Derived.Test.YtjbmdeppoobccaaHashlogPlain
namespace Go.Proofs.Ytjbmdeppoobccaa

theorem clashOf_more {c : List Nat × List Nat} : ∀ (B A : List (List Nat)), clashOf A = some c → clashOf (A ++ B) = some c
  | [], A, h => by rw [List.append_nil]; exact h
  | b :: B, A, h => by
    have e : A ++ b :: B = (A ++ [b]) ++ B := by simp
    rw [e]
    exact clashOf_more B (A ++ [b]) (by rw [clashOf_snoc, h])
theorem take_snoc {T : List (List Nat)} {k : Nat} (hk : k < T.length) : T.take (k + 1) = T.take k ++ [T.getD k []] := by
  rw [List.take_add_one]
  simp [List.getD, hk]
theorem bucket_append (A B : List (List Nat)) (s : List Nat) : bucket (A ++ B) s = bucket A s ++ bucket B s := by
  unfold bucket; rw [List.filter_append]
/-- What the double loop knows: no clash in the first k; none of the first q has the sum s. -/
def noClash (T : List (List Nat)) (k : Nat) : Prop := clashOf (T.take k) = none
def noneOf (T : List (List Nat)) (q : Nat) (s : List Nat) : Prop := bucket (T.take q) s = []
theorem noClash_zero (T : List (List Nat)) : noClash T 0 := rfl
theorem noneOf_zero (T : List (List Nat)) (s : List Nat) : noneOf T 0 s := rfl
theorem noneOf_next {T : List (List Nat)} {q : Nat} {s : List Nat} (h : noneOf T q s) (hq : q < T.length) (hs : ¬ sumOf (T.getD q []) = s) : noneOf T (q + 1) s := by
  unfold noneOf at *
  rw [take_snoc hq, bucket_snoc, if_neg hs, h]
theorem noClash_next {T : List (List Nat)} {k : Nat} (h : noClash T k) (hk : k < T.length) (hn : noneOf T k (sumOf (T.getD k []))) : noClash T (k + 1) := by
  unfold noClash noneOf at *
  rw [take_snoc hk, clashOf_snoc, h, hn]
theorem clash_found {T : List (List Nat)} {k q : Nat} (h : noClash T k) (hk : k < T.length) (hq : q < k) (hn : noneOf T q (sumOf (T.getD k []))) (hs : sumOf (T.getD q []) = sumOf (T.getD k [])) : clashOf T = some (T.getD q [], T.getD k []) := by
  unfold noClash noneOf at *
  have hb : bucket (T.take k) (sumOf (T.getD k [])) = T.getD q [] :: bucket ((T.take k).drop (q + 1)) (sumOf (T.getD k [])) := by
    have e2 : T.take k = T.take (q + 1) ++ (T.take k).drop (q + 1) := by
      conv => lhs; rw [← List.take_append_drop (q + 1) (T.take k)]
      rw [List.take_take, Nat.min_eq_left (by omega)]
    conv => lhs; rw [e2]
    rw [bucket_append, take_snoc (by omega), bucket_snoc, if_pos hs, hn]; rfl
  have h1 : clashOf (T.take (k + 1)) = some (T.getD q [], T.getD k []) := by
    rw [take_snoc hk, clashOf_snoc, h, hb]
  have := clashOf_more (T.drop (k + 1)) _ h1
  rwa [List.take_append_drop] at this
theorem clash_none {T : List (List Nat)} (h : noClash T T.length) : clashOf T = none := by
  unfold noClash at h
  rwa [List.take_length] at h
end Go.Proofs.Ytjbmdeppoobccaa
