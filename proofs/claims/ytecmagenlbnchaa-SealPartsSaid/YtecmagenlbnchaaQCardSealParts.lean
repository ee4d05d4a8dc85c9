/-
  SealParts holds: where blocks are unlike in one part of sixteen bytes alone, what is sealed with one stamp is unlike there alone: for every input the call returns true, and its arguments read behind it as before. Condition: none but the row's own.
-/
import Derived.Test.YtecmagenlbnchaaQKit
import Derived.Test.YtecmagenlbnchaaQSealParts22
import Derived.Test.YtecmagenlbnchaaQOpenB
import Derived.Test.YtecmagenlbnchaaRows
import Derived.Deep.DeepHandedRow
namespace Go.Proofs.Ytecmagenlbnchaa.sealParts
set_option maxRecDepth 100000
open Go.ChangeShapes Go.WideShapes Go.ChangeAt Go.RowKit

theorem own : ownKnob Try.prog.godebug = none := by kernel_rfl
theorem laidOut : laidOutB Try.prog = true := by kernel_rfl

theorem resTypes : Try.f5.resultTypes = #[4] := by kernel_rfl
theorem parTypes : Try.f5.params.toList.all (fun t => Try.prog.readableRec t && decide (t < Try.prog.types.size)) = true := by kernel_rfl
set_option maxRecDepth 100000 in
theorem contract (H : Type) (enc : TypeId × Value → H) (W : World) (base : Nat) (args : Array Value) (ds gs : List (DataW H)) (before : List MemPlace)
    (hval : ∀ (j : Nat) t v, Try.f5.params[j]? = some t → args[j]? = some v → Value.okWide Try.prog W .any base t v)
    (hW : DataW.Whole enc Try.prog Try.f5.params.toList Rows.sealPartsSpec.vars false W args.toList ds gs before) :
    Calls Try.prog 5 args W fun e W' => ∃ v, e = .returned v ∧ Rows.sealPartsSpec.post enc Try.prog Try.f5 false true false false W args v W' := by
  have hW' := hW
  obtain ⟨p, q, hA0, hV, rfl, hfz, hnd⟩ := hW
  have hA : DataW.TrodAll enc Try.prog W 0 (fun _ => true) true Try.f5.params.toList args.toList ds p := hA0
  rw [Try.params5] at hA hval
  obtain ⟨v0, vs0, d0, ds0, p0, q0, hargs, rfl, rfl, h0, r0⟩ := trodAll_cons hA
  obtain ⟨v1, vs1, d1, ds1, p1, q1, rfl, rfl, rfl, h1, r1⟩ := trodAll_cons r0
  obtain ⟨v2, vs2, d2, ds2, p2, q2, rfl, rfl, rfl, h2, r2⟩ := trodAll_cons r1
  obtain ⟨v3, vs3, d3, ds3, p3, q3, rfl, rfl, rfl, h3, r3⟩ := trodAll_cons r2
  obtain ⟨v4, vs4, d4, ds4, p4, q4, rfl, rfl, rfl, h4, r4⟩ := trodAll_cons r3
  obtain ⟨v5, vs5, d5, ds5, p5, q5, rfl, rfl, rfl, h5, r5⟩ := trodAll_cons r4
  obtain ⟨rfl, rfl, rfl⟩ := trodAll_nil r5
  obtain rfl : args = #[v0, v1, v2, v3, v4, v5] := by cases args; simp_all
  obtain ⟨k0, rfl, kl0, ks0⟩ := open_arr8 ⟨Try.underlying23, by kernel_rfl, by kernel_rfl, by kernel_rfl⟩ (hval 0 23 v0 rfl rfl) h0
  obtain ⟨i1, rfl, rfl, rfl, hwf1⟩ := open_int Try.underlying24 (hval 1 24 v1 rfl rfl) h1
  have hw1 : 0 ≤ i1 ∧ i1 < 18446744073709551616 := wf_u64 hwf1
  obtain ⟨m1, rfl⟩ : ∃ m : Nat, i1 = m := ⟨i1.toNat, by omega⟩
  have hm1 : m1 < 18446744073709551616 := by omega
  obtain ⟨i2, rfl, rfl, rfl, hwf2⟩ := open_int Try.underlying24 (hval 2 24 v2 rfl rfl) h2
  have hw2 : 0 ≤ i2 ∧ i2 < 18446744073709551616 := wf_u64 hwf2
  obtain ⟨m2, rfl⟩ : ∃ m : Nat, i2 = m := ⟨i2.toNat, by omega⟩
  have hm2 : m2 < 18446744073709551616 := by omega
  obtain ⟨a3, c3, t3, rfl, ht3, hl3⟩ := open_bytes (hval 3 25 v3 rfl rfl) h3
  obtain ⟨i4, rfl, rfl, rfl, hwf4⟩ := open_int Try.underlying3 (hval 4 3 v4 rfl rfl) h4
  obtain ⟨i5, rfl, rfl, rfl, hwf5⟩ := open_int Try.underlying5 (hval 5 5 v5 rfl rfl) h5
  have hw5 : 0 ≤ i5 ∧ i5 < 256 := wf_u8 hwf5
  obtain ⟨m5, rfl⟩ : ∃ m : Nat, i5 = m := ⟨i5.toNat, by omega⟩
  have hm5 : m5 < 256 := by omega
  refine (sealParts_law W k0 m1 m2 kl0 ks0 hm1 _ t3 ht3 i4 m5 hm5).mono fun e W' ⟨he, hB⟩ => ?_
  subst he
  exact ⟨_, rfl, law_post hW' laidOut (params_ok parTypes) resTypes Try.underlying4 rfl ⟨rfl, rfl, rfl⟩ hB⟩


/-- A world for the witness: the settled one. -/
noncomputable def laidWorld (os : Os) : World := World.holding Try.prog os ⟨#[], #[], []⟩
theorem reads (os : Os) {H : Type} (enc : TypeId × Value → H) : ∃ places, DataW.whole enc Try.prog ((laidWorld os).forCall (fun _ _ => 0) ⟨#[], #[.agg (Array.replicate 32 (.int .u8 0)), .int .u64 0, .int .u64 0, .slice .none 0 0, .int .i64 0, .int .u8 0], []⟩).memory Try.f5.params.toList Rows.sealPartsSpec.vars false (#[.agg (Array.replicate 32 (.int .u8 0)), .int .u64 0, .int .u64 0, .slice .none 0 0, .int .i64 0, .int .u8 0] : Array Value).toList 8 = some ([.agg (List.replicate 32 (.lit (.int .u8 0))), .lit (.int .u64 0), .lit (.int .u64 0), .nil, .lit (.int .i64 0), .lit (.int .u8 0)], [], places) :=
  ⟨[], by kernel_rfl⟩

set_option maxRecDepth 100000 in
theorem lifted (os : Os) (started : os.Started) (H : Type) (enc : TypeId × Value → H) (F : Stop.Interp) :
    ReturnsInHanded {} Try.checked os 5 .any ((OpenSpec.ofChange Rows.sealPartsSpec).preRow enc Try.prog Try.f5 Rows.sealPartsRow.domain false Rows.sealPartsRow.laid) (((OpenSpec.ofChange Rows.sealPartsSpec).at F).post enc Try.prog Try.f5 false true false false) := by
  obtain ⟨places, hx⟩ := reads os enc
  refine returnsInHanded_of_row (C := Try.checked) (s := OpenSpec.ofChange Rows.sealPartsSpec) own started (by kernel_rfl) Try.func5
    (witness_row_at (enc := enc) (C := Try.checked) false (laidWorld os) #[.agg (Array.replicate 32 (.int .u8 0)), .int .u64 0, .int .u64 0, .slice .none 0 0, .int .i64 0, .int .u8 0] rfl (by kernel_rfl) (by kernel_rfl) (by kernel_rfl)
      (OpenSpec.preRow_of_cond 8 hx (by kernel_rfl) (fun k hk => by cases hk) (by kernel_rfl) (laidMet_nil _ _))) ?_
  intro W base args ds gs before hval hW _ _ _ hL _ _
  exact contract H enc W base args ds gs before hval hW

theorem said : Rows.SealPartsSaid :=
  OpenClaim.holds_of_cond 5 Try.f5 rfl rfl rfl rfl rfl rfl rfl ⟨rfl, rfl, rfl, rfl, rfl⟩ rfl rfl rfl rfl rfl (by kernel_rfl) Try.func5 (by kernel_rfl)
    (of_decide_eq_true (by kernel_rfl)) (by unfold Func.isWrapper; first | (rw [if_pos (by decide +kernel)]; kernel_rfl) | (rw [if_neg (by decide +kernel)]; exact ⟨rfl, rfl⟩))
    (fun os started H enc _ F => by rw [OpenClaim.pre_eq_preRow]; exact lifted os started H enc F)

end Go.Proofs.Ytecmagenlbnchaa.sealParts
