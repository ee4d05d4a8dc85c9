/-
  Texts as strings: 'string(b)' of bytes, and when two are one. No condition.
-/
import Derived.Test.YtjbmdeppoobccaaRefOctet
import Derived.Laws.BytesArg
import Derived.Deep.RegionHeldLaw
namespace Go.Proofs.Ytjbmdeppoobccaa
open Go.RowKit

/-- A text's string. -/
def strOf (t : List Nat) : ByteArray := strOfNums (t.map fun (x : Nat) => (x : Int))
theorem strOf_inj {a b : List Nat} (ha : ∀ x ∈ a, x < 256) (hb : ∀ x ∈ b, x < 256) (h : strOf a = strOf b) : a = b := by
  have h2 : (strOf a).data.toList = (strOf b).data.toList := by rw [h]
  unfold strOf at h2
  rw [strOfNums_data, strOfNums_data, List.map_map, List.map_map] at h2
  have e : ∀ l : List Nat, (∀ x ∈ l, x < 256) → (l.map ((fun n : Int => UInt8.ofNat n.toNat) ∘ fun (x : Nat) => (x : Int))).map UInt8.toNat = l := fun l hl => by
    rw [List.map_map]
    conv => rhs; rw [← List.map_id l]
    refine List.map_congr_left fun x hx => ?_
    have := hl x hx
    simp [Nat.mod_eq_of_lt this]
  rw [← e a ha, ← e b hb, h2]
theorem strOf_eq {a b : List Nat} (ha : ∀ x ∈ a, x < 256) (hb : ∀ x ∈ b, x < 256) : (strOf a = strOf b) = (a = b) :=
  propext ⟨strOf_inj ha hb, fun e => by rw [e]⟩
theorem run_str {w : World} {v : Value} {t : List Nat} (h : TextAt w v t) : (convert 22 9 v).run Try.prog w = .ok (.string (strOf t)) w := by
  obtain ⟨ao, cap, rfl, h1, h2, h3⟩ := h.ex
  have nil : t.length = 0 → strOf t = ByteArray.empty := fun e => by
    rw [List.length_eq_zero_iff.1 e]; rfl
  cases ao with
  | none =>
    have h0 : t.length = 0 := by have := h2 rfl; omega
    rw [run_convert_bytes_nil w 22 5 Try.underlying22 Try.underlying5 _ _ 9 Try.underlying9, nil h0]
  | some ad =>
    by_cases h0 : t.length = 0
    · rw [run_convert_bytes_string w 22 9 5 _ _ _ Try.underlying22 Try.underlying5 Try.underlying9, run_bytesToString w ad t.length cap [] (by rw [h0]; exact run_loadCells_list w ad [] (fun j v hj => by simp at hj)), nil h0]
      rfl
    · obtain ⟨_, ob, oo, e, _⟩ := h3 0 (by omega)
      cases e
      refine run_convert_bytes_arg w 22 5 Try.underlying22 Try.underlying5 ob oo t.length cap (t.map fun (x : Nat) => (x : Int)) (by simp) (fun i hi => ?_) 9 Try.underlying9
      obtain ⟨_, ob', oo', e, hc⟩ := h3 i hi
      cases e
      rw [hc]
      simp [byt, List.getD, hi]

/-- In a region that draws its order: a text as a string, under an S that gives the text. -/
theorem yieldsIf_str {ops : Array Oper} {S : World → Prop} {o : Oper} {a : Act} (hw : Region.wanted o (yielded ops a.tmps) = true) {x : Operand} (ho : o.op = .convert 22 9 x)
    {v : Value} (hx : a.eval x = v) {t : List Nat} (hS : ∀ w, S w → TextAt w v t) : YieldsIf Try.prog ops S o (.string (strOf t)) a :=
  .inl ⟨hw, fun w hw' => by
    unfold execOp
    simp only [ho, hx, Sem.run_bind, Sem.run_pure, run_str (hS w hw'), Result.andThen_ok]⟩

end Go.Proofs.Ytjbmdeppoobccaa
