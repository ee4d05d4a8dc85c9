/-
  sha.turn: a word turned down by n digits. Conditions: the word is below 2^32, n from 1 to 31.
  sha.start and sha.numbers: the tables, made anew. No condition.
-/
import Derived.Test.YtjhfoddhpmmjoaaDoorProg
import Derived.Test.YtjhfoddhpmmjoaaDoorQRowB
import Derived.Test.YtjhfoddhpmmjoaaDoorQTzPlain
namespace Go.Proofs.YtjhfoddhpmmjoaaDoor
set_option maxRecDepth 100000
open Go.RowKit

theorem rot_mask (n : Nat) (h1 : 1 ≤ n) (h2 : n ≤ 31) : bits .and .u64 (IntKind.u64.wrap (-(n : Int))) 31 = ((32 - n : Nat) : Int) := by
  have e1 : IntKind.u64.wrap (-(n : Int)) = ((18446744073709551616 - n : Nat) : Int) := by rw [IntKind.wrap_u64]; omega
  rw [e1, show (31 : Int) = ((31 : Nat) : Int) from rfl, u64_and_nat _ _ (by omega) (by decide), nat_mask5]
  omega

theorem rot_val (x n s : Nat) (hx : x < M32) (h1 : n + s = 32) : bits .or .u32 ((x : Int) * (2 : Int) ^ s % 4294967296) ((x : Int) / (2 : Int) ^ (32 - s)) = (rotr x n : Int) := by
  rw [show 32 - s = n by omega]
  have hp : 0 < 2 ^ n := Nat.pow_pos (by omega)
  have e0 : 2 ^ n * 2 ^ s = M32 := by rw [← Nat.pow_add, h1]; rfl
  have e1 : ((x : Int) * (2 : Int) ^ s % 4294967296) = ((x % 2 ^ n * 2 ^ s : Nat) : Int) := by
    have e : ((x : Int) * (2 : Int) ^ s) = ((x * 2 ^ s : Nat) : Int) := by simp
    rw [e, ← Nat.mul_mod_mul_right, e0]
    rfl
  have e2 : ((x : Int) / (2 : Int) ^ n) = ((x / 2 ^ n : Nat) : Int) := by simp
  have l1 : x / 2 ^ n < 2 ^ s := by apply Nat.div_lt_of_lt_mul; rw [e0]; exact hx
  have l2 : x % 2 ^ n * 2 ^ s < M32 := by
    rw [← e0]; exact Nat.mul_lt_mul_of_pos_right (Nat.mod_lt _ hp) (Nat.pow_pos (by omega))
  rw [e1, e2, u32_or_nat _ _ l2 (Nat.lt_of_le_of_lt (Nat.div_le_self _ _) hx), nat_join s _ _ (Nat.mul_mod_left _ _) l1]
  unfold rotr
  rw [show 32 - n = s by omega, Nat.add_comm]

set_option maxRecDepth 100000 in
theorem rot_core (x n s : Nat) (w : World) (h1 : 1 ≤ s) (h2 : s ≤ 31) (hs : bits .and .u64 (IntKind.u64.wrap (-(n : Int))) 31 = (s : Int)) (hv : Hid (bits .or .u32 ((x : Int) * (2 : Int) ^ s % 4294967296) ((x : Int) / (2 : Int) ^ (32 - s)) = (rotr x n : Int))) :
    Calls Tryd.prog 101 #[.int .u32 x, .int .i64 (-(n : Int))] w fun e w' => e = .returned (.int .u32 (rotr x n)) ∧ w = w' := by
  go_enter Tryd.func101, Tryd.ntmps101
  go_wp2
  go_ret
  exact ⟨ret_int hv.out, rfl⟩

theorem rot_any (x n : Nat) (w : World) (hx : x < M32) (h1 : 1 ≤ n) (h2 : n ≤ 31) :
    Calls Tryd.prog 101 #[.int .u32 x, .int .i64 (-(n : Int))] w fun e w' => e = .returned (.int .u32 (rotr x n)) ∧ w = w' :=
  rot_core x n (32 - n) w (by omega) (by omega) (rot_mask n h1 h2) (rot_val x n (32 - n) hx (by omega))

set_option maxRecDepth 100000 in
theorem sturn_any (x n : Nat) (w : World) (hx : x < M32) (h1 : 1 ≤ n) (h2 : n ≤ 31) :
    Calls Tryd.prog 97 #[.int .u32 x, .int .i64 n] w fun e w' => e = .returned (.int .u32 (rotr x n)) ∧ w = w' := by
  have c := Lib.hid (rot_any x n w hx h1 h2)
  go_enter Tryd.func97, Tryd.ntmps97
  go_wp2_with (go_at_call 101; refine c.out.mono ?_; rintro e w' ⟨rfl, rfl⟩)
  go_ret
  exact ⟨rfl, rfl⟩

end Go.Proofs.YtjhfoddhpmmjoaaDoor
namespace Go.Proofs.YtjhfoddhpmmjoaaDoor
set_option maxRecDepth 100000
open Go.RowKit

def u32s (l : List Nat) : Array Value := (l.map fun (n : Nat) => Value.int .u32 (n : Int)).toArray
theorem sizeH : (Tryd.prog.info? 153).map (·.size) = some (u32s shaH).size := by kernel_rfl
theorem sizeK : (Tryd.prog.info? 159).map (·.size) = some (u32s shaK).size := by kernel_rfl

set_option maxRecDepth 100000 in
theorem start_any (w : World) : Calls Tryd.prog 92 #[] w fun e w' => e = .returned (.agg (u32s shaH)) ∧ Below w.heap.size w w' := by
  go_enter Tryd.func92, Tryd.ntmps92
  go_wp2
  refine ret_row rfl rfl w.heap.size 153 (u32s shaH) (0, 0) _ rfl ?_ Tryd.underlying153 rfl sizeH ⟨rfl, (Below.refl _ _).alloc (Nat.le_refl _) _⟩
  exact heap_alloc_new _ _

/-- A literal of an array, its cells told by name. -/
theorem wpList_build_is {P : Program} {ops : Array Oper} {rest : List Oper} {o : Oper} {a : Act} {w : World} {Q : Exit → Act → World → Prop} (hg : o.guard = none) (t : TypeId) (parts : Array (Nat × Operand)) (ho : o.op = .build t parts)
    (cells : Array Value) (hb : P.built t (parts.map fun (i, x) => (i, a.eval x)).toList = some cells) (h : wpList P ops Q rest (a.put o.dst (.agg cells)) w) : wpList P ops Q (o :: rest) a w :=
  wpList_build hg t parts ho (by rw [hb]; rfl) (by rw [hb]; exact h)

set_option maxRecDepth 100000 in
theorem numbers_any (w : World) : Calls Tryd.prog 98 #[] w fun e w' => e = .returned (.agg (u32s shaK)) ∧ Below w.heap.size w w' := by
  go_enter Tryd.func98, Tryd.ntmps98
  go_wp2_with (first
    | (refine wpList_build_is rfl 159 _ rfl (u32s shaK) (by kernel_rfl) ?_)
    | (refine wpList_store_row rfl 159 (.tmp 0) (.tmp 1) rfl w.heap.size (u32s shaK) rfl rfl 159 _ (heap_alloc_new _ _) sizeK (by kernel_rfl) (by kernel_rfl) ?_))
  refine ret_row rfl rfl w.heap.size 159 (u32s shaK) (0, 0) _ rfl ?_ Tryd.underlying159 rfl sizeK ⟨rfl, ?_⟩
  · exact setRow_heap _ _ _ _ _ _ (heap_alloc_new _ _)
  · exact below_setRow ((Below.refl _ _).alloc (Nat.le_refl _) _) (Nat.le_refl _) _

end Go.Proofs.YtjhfoddhpmmjoaaDoor
