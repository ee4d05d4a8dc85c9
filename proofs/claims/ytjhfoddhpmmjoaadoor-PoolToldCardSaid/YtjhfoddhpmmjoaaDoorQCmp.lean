/-
  Arrays of bytes compared. No condition.
  Rows of bytes compared, by == and by !=, guarded or not. No condition.
-/
import Derived.Test.YtjhfoddhpmmjoaaDoorQHeld
import Derived.Stop.BytesEq
namespace Go.Proofs.YtjhfoddhpmmjoaaDoor
set_option maxRecDepth 100000
open Go.RowKit

theorem u8s_cells {l : List Nat} (h : ∀ x ∈ l, x < 256) : u8s l = ((l.map UInt8.ofNat).map Extern.Stop.cell).toArray := by
  unfold u8s
  congr 1
  rw [List.map_map]
  refine List.map_congr_left fun x hx => ?_
  have := h x hx
  simp [Extern.Stop.cell, Nat.mod_eq_of_lt this]
theorem map_ofNat_inj {a b : List Nat} (ha : ∀ x ∈ a, x < 256) (hb : ∀ x ∈ b, x < 256) : (a.map UInt8.ofNat == b.map UInt8.ofNat) = (a == b) := by
  have e : ∀ l : List Nat, (∀ x ∈ l, x < 256) → (l.map UInt8.ofNat).map UInt8.toNat = l := fun l hl => by
    rw [List.map_map]
    conv => rhs; rw [← List.map_id l]
    refine List.map_congr_left fun x hx => ?_
    have := hl x hx
    simp [Nat.mod_eq_of_lt this]
  rw [Bool.eq_iff_iff, beq_iff_eq, beq_iff_eq]
  exact ⟨fun h => by rw [← e a ha, ← e b hb, h], fun h => by rw [h]⟩
theorem run_eql_arr {P : Program} {t e : TypeId} {n : Nat} (ht : P.underlying t = some (.array n e)) (he : P.underlying e = some (.int .u8)) (hs : (P.info? e).map (·.size) = some 1)
    {a b : List Nat} (ha : ∀ x ∈ a, x < 256) (hb : ∀ x ∈ b, x < 256) (la : a.length = n) (lb : b.length = n) (w : World) :
    (binOp .eql t (.agg (u8s a)) (.agg (u8s b))).run P w = .ok (.bool (a == b)) w := by
  have hsz : ∀ w, (sizeOf e).run P w = .ok 1 w := fun w => by
    cases hq : P.info? e with
    | none => simp [hq] at hs
    | some i => simp [hq] at hs; simp [sizeOf, typeInfo, hq, hs]
  rw [u8s_cells ha, u8s_cells hb, run_eql_bytes w t e n ht he hsz _ _ (by simpa using la) (by simpa using lb), map_ofNat_inj ha hb]

/-- The same in the form in which the walk asks. -/
theorem run_equal_arr {P : Program} {t e : TypeId} {n : Nat} (ht : P.underlying t = some (.array n e)) (he : P.underlying e = some (.int .u8)) (hs : (P.info? e).map (·.size) = some 1)
    {a b : List Nat} (ha : ∀ x ∈ a, x < 256) (hb : ∀ x ∈ b, x < 256) (la : a.length = n) (lb : b.length = n) (w : World) :
    (Op.equalIn 10000 t (.agg (u8s a)) (.agg (u8s b))).run P w = .ok (a == b) w := by
  have hsz : ∀ w, (sizeOf e).run P w = .ok 1 w := fun w => by
    cases hq : P.info? e with
    | none => simp [hq] at hs
    | some i => simp [hq] at hs; simp [sizeOf, typeInfo, hq, hs]
  have h := run_equalIn_bytes (P := P) w 9998 t e n ht he hsz (a.map UInt8.ofNat) (b.map UInt8.ofNat) (by simpa using la) (by simpa using lb)
  rw [u8s_cells ha, u8s_cells hb, ← map_ofNat_inj ha hb]
  exact h

end Go.Proofs.YtjhfoddhpmmjoaaDoor
namespace Go.Proofs.YtjhfoddhpmmjoaaDoor
set_option maxRecDepth 100000
open Go.RowKit

theorem wp_cmp {P : Program} {o : Oper} {a : Act} {w : World} {K : Act → World → Prop} {Q : Exit → Act → World → Prop} (op : BinOp) (t u : TypeId) (x y : Operand) (ho : o.op = .binOp op t x y u) (xs ys : Array Value) (hx : a.eval x = .agg xs) (hy : a.eval y = .agg ys)
    (hm : P.eqGuardType P.depth t = false) (v : Value) (hr : (binOp op t (.agg xs) (.agg ys)).run P w = .ok v w) (h : K (a.put o.dst v) w) : o.wp P a w K Q := by
  unfold Oper.wp execOp
  simp only [ho, Sem.run_bind, hx, hy, run_eqGuard_agg w op t x y xs ys hm, hr, Result.andThen_ok]
  exact h
theorem run_ne_arr {P : Program} {t e : TypeId} {n : Nat} (ht : P.underlying t = some (.array n e)) (he : P.underlying e = some (.int .u8)) (hs : (P.info? e).map (·.size) = some 1)
    {a b : List Nat} (ha : ∀ x ∈ a, x < 256) (hb : ∀ x ∈ b, x < 256) (la : a.length = n) (lb : b.length = n) (w : World) :
    (binOp .neq t (.agg (u8s a)) (.agg (u8s b))).run P w = .ok (.bool (!(a == b))) w := by
  rw [run_neq_struct w t (u8s a) (u8s b), run_equal_arr ht he hs ha hb la lb w]; rfl
theorem wpList_cmp {P : Program} {ops : Array Oper} {rest : List Oper} {o : Oper} {a : Act} {w : World} {Q : Exit → Act → World → Prop} (hw : Region.wanted o (yielded ops a.tmps) = true) (op : BinOp) (t u : TypeId) (x y : Operand) (ho : o.op = .binOp op t x y u) (xs ys : Array Value) (hx : a.eval x = .agg xs) (hy : a.eval y = .agg ys)
    (hm : P.eqGuardType P.depth t = false) (v : Value) (hr : (binOp op t (.agg xs) (.agg ys)).run P w = .ok v w) (h : wpList P ops Q rest (a.put o.dst v) w) : wpList P ops Q (o :: rest) a w :=
  wpList_step fun K hK => by rw [if_pos hw]; exact wp_cmp op t u x y ho xs ys hx hy hm v hr (hK _ _ h)
end Go.Proofs.YtjhfoddhpmmjoaaDoor
