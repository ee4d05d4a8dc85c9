/-
  sha.start and sha.numbers: the tables, made anew. No condition.
-/
import Derived.Test.YtjbmdeppoobccaaShaTurn
import Derived.Test.YtjbmdeppoobccaaRowB
namespace Go.Proofs.Ytjbmdeppoobccaa
open Go.RowKit

def u32s (l : List Nat) : Array Value := (l.map fun (n : Nat) => Value.int .u32 (n : Int)).toArray
theorem sizeH : (Try.prog.info? 40).map (·.size) = some (u32s shaH).size := by kernel_rfl
theorem sizeK : (Try.prog.info? 89).map (·.size) = some (u32s shaK).size := by kernel_rfl

set_option maxRecDepth 100000 in
theorem start_any (w : World) : Calls Try.prog 49 #[] w fun e w' => e = .returned (.agg (u32s shaH)) ∧ Below w.heap.size w w' := by
  go_enter Try.func49, Try.ntmps49
  go_wp2
  refine ret_row rfl rfl w.heap.size 40 (u32s shaH) (0, 0) _ rfl ?_ Try.underlying40 rfl sizeH ⟨rfl, (Below.refl _ _).alloc (Nat.le_refl _) _⟩
  exact heap_alloc_new _ _

/-- A literal of an array, its cells told by name. -/
theorem wpList_build_is {P : Program} {ops : Array Oper} {rest : List Oper} {o : Oper} {a : Act} {w : World} {Q : Exit → Act → World → Prop} (hg : o.guard = none) (t : TypeId) (parts : Array (Nat × Operand)) (ho : o.op = .build t parts)
    (cells : Array Value) (hb : P.built t (parts.map fun (i, x) => (i, a.eval x)).toList = some cells) (h : wpList P ops Q rest (a.put o.dst (.agg cells)) w) : wpList P ops Q (o :: rest) a w :=
  wpList_build hg t parts ho (by rw [hb]; rfl) (by rw [hb]; exact h)

set_option maxRecDepth 100000 in
theorem numbers_any (w : World) : Calls Try.prog 65 #[] w fun e w' => e = .returned (.agg (u32s shaK)) ∧ Below w.heap.size w w' := by
  go_enter Try.func65, Try.ntmps65
  go_wp2_with (first
    | (refine wpList_build_is rfl 89 _ rfl (u32s shaK) (by kernel_rfl) ?_)
    | (refine wpList_store_row rfl 89 (.tmp 0) (.tmp 1) rfl w.heap.size (u32s shaK) rfl rfl 89 _ (heap_alloc_new _ _) sizeK (by kernel_rfl) (by kernel_rfl) ?_))
  refine ret_row rfl rfl w.heap.size 89 (u32s shaK) (0, 0) _ rfl ?_ Try.underlying89 rfl sizeK ⟨rfl, ?_⟩
  · exact setRow_heap _ _ _ _ _ _ (heap_alloc_new _ _)
  · exact below_setRow ((Below.refl _ _).alloc (Nat.le_refl _) _) (Nat.le_refl _) _

end Go.Proofs.Ytjbmdeppoobccaa
