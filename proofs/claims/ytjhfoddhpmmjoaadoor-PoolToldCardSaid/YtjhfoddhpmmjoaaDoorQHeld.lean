/-
  Loads of whole arrays in a region that only reads; regions that draw their order, walked in the text's order. No condition.
-/
import Derived.Test.YtjhfoddhpmmjoaaDoorQRowB
import Derived.BigQuiet
import Derived.Deep.QuietTactic
import Derived.Deep.RegionHeldLaw
namespace Go.Proofs.YtjhfoddhpmmjoaaDoor
set_option maxRecDepth 100000
open Go.RowKit

theorem quiet_load_row {P : Program} {o : Oper} {a : Act} {C : World → Prop} {K : Act → Prop} (ty : TypeId) (x : Operand) (ho : o.op = .load ty x)
    (g : Nat) (hx : a.eval x = .pointer (some ⟨g, 0, none⟩)) (t : TypeId) (cs : Array Value) (fr : Nat × Nat) (d : TypeDesc) (hC : ∀ w, C w → w.heap[g]? = some (.cells cs t fr))
    (hu : P.underlying ty = some d) (hd : (match d with | .struct _ | .array _ _ => true | _ => false) = true) (hi : (P.info? ty).map (·.size) = some cs.size)
    (h : K (a.put o.dst (.agg cs))) : o.quiet P a C K :=
  ⟨.agg cs, fun w hw => by
    unfold Oper.quietAt execOp
    simp only [ho, hx, Instr.loadAt, Instr.sureAddr, Sem.run_bind, Sem.run_pure, Result.andThen_ok, run_loadVar_row w g t ty cs fr d (hC w hw) hu hd hi]
    exact ⟨rfl, rfl⟩, h⟩

/-- The same in a region of one order, guarded or not. -/
theorem wpList_load_rowg {P : Program} {ops : Array Oper} {rest : List Oper} {o : Oper} {a : Act} {w : World} {Q : Exit → Act → World → Prop} (hw : Region.wanted o (yielded ops a.tmps) = true) (ty : TypeId) (x : Operand) (ho : o.op = .load ty x)
    (g : Nat) (hx : a.eval x = .pointer (some ⟨g, 0, none⟩)) (t : TypeId) (cs : Array Value) (fr : Nat × Nat) (d : TypeDesc) (hg : w.heap[g]? = some (.cells cs t fr))
    (hu : P.underlying ty = some d) (hd : (match d with | .struct _ | .array _ _ => true | _ => false) = true) (hi : (P.info? ty).map (·.size) = some cs.size)
    (h : wpList P ops Q rest (a.put o.dst (.agg cs)) w) : wpList P ops Q (o :: rest) a w :=
  wpList_step fun K hK => by rw [if_pos hw]; exact wp_load_row ty x ho g hx t cs fr d hg hu hd hi (hK _ _ h)

/-- A region that draws its order, walked in the text's order: an operation that yields its value in every world of S comes up. -/
theorem held_take {P : Program} {md : Region.Mode} {Q : Exit → Act → World → Prop} {S : World → Prop} {l : List Oper} {i : Nat} {o : Oper} {rest : List Oper} {v : Value} {fuel : Nat} {listed : Array Bool} {a : Act} {w : World} (hd : l.drop i = o :: rest)
    (hs : Region.noSelect l.toArray = true) (hf : Region.free md l.toArray listed i = true) (hr : (Region.ready md l.toArray listed).contains i = true)
    (hQ : ∀ c a w, Q (.panic c) (a.put o.dst v) w → Q (.panic c) a w) (hy : YieldsIf P l.toArray S o v a) (hS : S w)
    (h : wpAnyH P md l.toArray Q S fuel (listed.setIfInBounds i true) (a.put o.dst v) w) : wpAnyH P md l.toArray Q S (fuel + 1) listed a w := by
  have hi : l.toArray[i]? = some o := by
    have h0 : (l.drop i)[0]? = some o := by rw [hd]; rfl
    simpa using h0
  exact wpAnyH_take hi hs hf hr hQ hy hS h
/-- .. and one that is alone in being ready. -/
theorem held_ready {P : Program} {md : Region.Mode} {Q : Exit → Act → World → Prop} {S : World → Prop} {l : List Oper} {i : Nat} {o : Oper} {rest : List Oper} {fuel : Nat} {listed : Array Bool} {a : Act} {w : World} (hd : l.drop i = o :: rest)
    (hr : Region.ready md l.toArray listed = [i])
    (h : ∀ K' : Act → World → Prop, Shut (∀ a w, S w → (S w → wpAnyH P md l.toArray Q S fuel (listed.setIfInBounds i true) a w) → K' a w) → if Region.wanted o (yielded l.toArray a.tmps) = true then Oper.wp P o a w K' Q else K' (a.put o.dst undef) w) :
    wpAnyH P md l.toArray Q S (fuel + 1) listed a w := by
  have hi : l.toArray[i]? = some o := by
    have h0 : (l.drop i)[0]? = some o := by rw [hd]; rfl
    simpa using h0
  exact wpAnyH_ready hr (by simp) (AllReadyH.cons hi h AllReadyH.nil)
/-- .. and two that are ready: either may come up. -/
theorem held_ready2 {P : Program} {md : Region.Mode} {Q : Exit → Act → World → Prop} {S : World → Prop} {l : List Oper} {i j : Nat} {o1 o2 : Oper} {rest1 rest2 : List Oper} {fuel : Nat} {listed : Array Bool} {a : Act} {w : World} (hd1 : l.drop i = o1 :: rest1) (hd2 : l.drop j = o2 :: rest2)
    (hr : Region.ready md l.toArray listed = [i, j])
    (h1 : ∀ K' : Act → World → Prop, Shut (∀ a w, S w → (S w → wpAnyH P md l.toArray Q S fuel (listed.setIfInBounds i true) a w) → K' a w) → if Region.wanted o1 (yielded l.toArray a.tmps) = true then Oper.wp P o1 a w K' Q else K' (a.put o1.dst undef) w)
    (h2 : ∀ K' : Act → World → Prop, Shut (∀ a w, S w → (S w → wpAnyH P md l.toArray Q S fuel (listed.setIfInBounds j true) a w) → K' a w) → if Region.wanted o2 (yielded l.toArray a.tmps) = true then Oper.wp P o2 a w K' Q else K' (a.put o2.dst undef) w) :
    wpAnyH P md l.toArray Q S (fuel + 1) listed a w := by
  have hi : l.toArray[i]? = some o1 := by
    have h0 : (l.drop i)[0]? = some o1 := by rw [hd1]; rfl
    simpa using h0
  have hj : l.toArray[j]? = some o2 := by
    have h0 : (l.drop j)[0]? = some o2 := by rw [hd2]; rfl
    simpa using h0
  exact wpAnyH_ready hr (by simp) (AllReadyH.cons hi h1 (AllReadyH.cons hj h2 AllReadyH.nil))
/-- .. and several. -/
theorem held_readies2 {P : Program} {md : Region.Mode} {Q : Exit → Act → World → Prop} {S : World → Prop} {l : List Oper} {i0 i1 : Nat} {o0 o1 : Oper} {r0 r1 : List Oper} {fuel : Nat} {listed : Array Bool} {a : Act} {w : World} (hd0 : l.drop i0 = o0 :: r0) (hd1 : l.drop i1 = o1 :: r1)
    (hr : Region.ready md l.toArray listed = [i0, i1])
    (h0 : ∀ K' : Act → World → Prop, Shut (∀ a w, S w → (S w → wpAnyH P md l.toArray Q S fuel (listed.setIfInBounds i0 true) a w) → K' a w) → if Region.wanted o0 (yielded l.toArray a.tmps) = true then Oper.wp P o0 a w K' Q else K' (a.put o0.dst undef) w)
    (h1 : ∀ K' : Act → World → Prop, Shut (∀ a w, S w → (S w → wpAnyH P md l.toArray Q S fuel (listed.setIfInBounds i1 true) a w) → K' a w) → if Region.wanted o1 (yielded l.toArray a.tmps) = true then Oper.wp P o1 a w K' Q else K' (a.put o1.dst undef) w) :
    wpAnyH P md l.toArray Q S (fuel + 1) listed a w := by
  have g0 : l.toArray[i0]? = some o0 := by
    have h0 : (l.drop i0)[0]? = some o0 := by rw [hd0]; rfl
    simpa using h0
  have g1 : l.toArray[i1]? = some o1 := by
    have h0 : (l.drop i1)[0]? = some o1 := by rw [hd1]; rfl
    simpa using h0
  exact wpAnyH_ready hr (by simp) (AllReadyH.cons g0 h0 (AllReadyH.cons g1 h1 AllReadyH.nil))
theorem held_readies3 {P : Program} {md : Region.Mode} {Q : Exit → Act → World → Prop} {S : World → Prop} {l : List Oper} {i0 i1 i2 : Nat} {o0 o1 o2 : Oper} {r0 r1 r2 : List Oper} {fuel : Nat} {listed : Array Bool} {a : Act} {w : World} (hd0 : l.drop i0 = o0 :: r0) (hd1 : l.drop i1 = o1 :: r1) (hd2 : l.drop i2 = o2 :: r2)
    (hr : Region.ready md l.toArray listed = [i0, i1, i2])
    (h0 : ∀ K' : Act → World → Prop, Shut (∀ a w, S w → (S w → wpAnyH P md l.toArray Q S fuel (listed.setIfInBounds i0 true) a w) → K' a w) → if Region.wanted o0 (yielded l.toArray a.tmps) = true then Oper.wp P o0 a w K' Q else K' (a.put o0.dst undef) w)
    (h1 : ∀ K' : Act → World → Prop, Shut (∀ a w, S w → (S w → wpAnyH P md l.toArray Q S fuel (listed.setIfInBounds i1 true) a w) → K' a w) → if Region.wanted o1 (yielded l.toArray a.tmps) = true then Oper.wp P o1 a w K' Q else K' (a.put o1.dst undef) w)
    (h2 : ∀ K' : Act → World → Prop, Shut (∀ a w, S w → (S w → wpAnyH P md l.toArray Q S fuel (listed.setIfInBounds i2 true) a w) → K' a w) → if Region.wanted o2 (yielded l.toArray a.tmps) = true then Oper.wp P o2 a w K' Q else K' (a.put o2.dst undef) w) :
    wpAnyH P md l.toArray Q S (fuel + 1) listed a w := by
  have g0 : l.toArray[i0]? = some o0 := by
    have h0 : (l.drop i0)[0]? = some o0 := by rw [hd0]; rfl
    simpa using h0
  have g1 : l.toArray[i1]? = some o1 := by
    have h0 : (l.drop i1)[0]? = some o1 := by rw [hd1]; rfl
    simpa using h0
  have g2 : l.toArray[i2]? = some o2 := by
    have h0 : (l.drop i2)[0]? = some o2 := by rw [hd2]; rfl
    simpa using h0
  exact wpAnyH_ready hr (by simp) (AllReadyH.cons g0 h0 (AllReadyH.cons g1 h1 (AllReadyH.cons g2 h2 AllReadyH.nil)))
theorem held_readies4 {P : Program} {md : Region.Mode} {Q : Exit → Act → World → Prop} {S : World → Prop} {l : List Oper} {i0 i1 i2 i3 : Nat} {o0 o1 o2 o3 : Oper} {r0 r1 r2 r3 : List Oper} {fuel : Nat} {listed : Array Bool} {a : Act} {w : World} (hd0 : l.drop i0 = o0 :: r0) (hd1 : l.drop i1 = o1 :: r1) (hd2 : l.drop i2 = o2 :: r2) (hd3 : l.drop i3 = o3 :: r3)
    (hr : Region.ready md l.toArray listed = [i0, i1, i2, i3])
    (h0 : ∀ K' : Act → World → Prop, Shut (∀ a w, S w → (S w → wpAnyH P md l.toArray Q S fuel (listed.setIfInBounds i0 true) a w) → K' a w) → if Region.wanted o0 (yielded l.toArray a.tmps) = true then Oper.wp P o0 a w K' Q else K' (a.put o0.dst undef) w)
    (h1 : ∀ K' : Act → World → Prop, Shut (∀ a w, S w → (S w → wpAnyH P md l.toArray Q S fuel (listed.setIfInBounds i1 true) a w) → K' a w) → if Region.wanted o1 (yielded l.toArray a.tmps) = true then Oper.wp P o1 a w K' Q else K' (a.put o1.dst undef) w)
    (h2 : ∀ K' : Act → World → Prop, Shut (∀ a w, S w → (S w → wpAnyH P md l.toArray Q S fuel (listed.setIfInBounds i2 true) a w) → K' a w) → if Region.wanted o2 (yielded l.toArray a.tmps) = true then Oper.wp P o2 a w K' Q else K' (a.put o2.dst undef) w)
    (h3 : ∀ K' : Act → World → Prop, Shut (∀ a w, S w → (S w → wpAnyH P md l.toArray Q S fuel (listed.setIfInBounds i3 true) a w) → K' a w) → if Region.wanted o3 (yielded l.toArray a.tmps) = true then Oper.wp P o3 a w K' Q else K' (a.put o3.dst undef) w) :
    wpAnyH P md l.toArray Q S (fuel + 1) listed a w := by
  have g0 : l.toArray[i0]? = some o0 := by
    have h0 : (l.drop i0)[0]? = some o0 := by rw [hd0]; rfl
    simpa using h0
  have g1 : l.toArray[i1]? = some o1 := by
    have h0 : (l.drop i1)[0]? = some o1 := by rw [hd1]; rfl
    simpa using h0
  have g2 : l.toArray[i2]? = some o2 := by
    have h0 : (l.drop i2)[0]? = some o2 := by rw [hd2]; rfl
    simpa using h0
  have g3 : l.toArray[i3]? = some o3 := by
    have h0 : (l.drop i3)[0]? = some o3 := by rw [hd3]; rfl
    simpa using h0
  exact wpAnyH_ready hr (by simp) (AllReadyH.cons g0 h0 (AllReadyH.cons g1 h1 (AllReadyH.cons g2 h2 (AllReadyH.cons g3 h3 AllReadyH.nil))))
theorem held_readies5 {P : Program} {md : Region.Mode} {Q : Exit → Act → World → Prop} {S : World → Prop} {l : List Oper} {i0 i1 i2 i3 i4 : Nat} {o0 o1 o2 o3 o4 : Oper} {r0 r1 r2 r3 r4 : List Oper} {fuel : Nat} {listed : Array Bool} {a : Act} {w : World} (hd0 : l.drop i0 = o0 :: r0) (hd1 : l.drop i1 = o1 :: r1) (hd2 : l.drop i2 = o2 :: r2) (hd3 : l.drop i3 = o3 :: r3) (hd4 : l.drop i4 = o4 :: r4)
    (hr : Region.ready md l.toArray listed = [i0, i1, i2, i3, i4])
    (h0 : ∀ K' : Act → World → Prop, Shut (∀ a w, S w → (S w → wpAnyH P md l.toArray Q S fuel (listed.setIfInBounds i0 true) a w) → K' a w) → if Region.wanted o0 (yielded l.toArray a.tmps) = true then Oper.wp P o0 a w K' Q else K' (a.put o0.dst undef) w)
    (h1 : ∀ K' : Act → World → Prop, Shut (∀ a w, S w → (S w → wpAnyH P md l.toArray Q S fuel (listed.setIfInBounds i1 true) a w) → K' a w) → if Region.wanted o1 (yielded l.toArray a.tmps) = true then Oper.wp P o1 a w K' Q else K' (a.put o1.dst undef) w)
    (h2 : ∀ K' : Act → World → Prop, Shut (∀ a w, S w → (S w → wpAnyH P md l.toArray Q S fuel (listed.setIfInBounds i2 true) a w) → K' a w) → if Region.wanted o2 (yielded l.toArray a.tmps) = true then Oper.wp P o2 a w K' Q else K' (a.put o2.dst undef) w)
    (h3 : ∀ K' : Act → World → Prop, Shut (∀ a w, S w → (S w → wpAnyH P md l.toArray Q S fuel (listed.setIfInBounds i3 true) a w) → K' a w) → if Region.wanted o3 (yielded l.toArray a.tmps) = true then Oper.wp P o3 a w K' Q else K' (a.put o3.dst undef) w)
    (h4 : ∀ K' : Act → World → Prop, Shut (∀ a w, S w → (S w → wpAnyH P md l.toArray Q S fuel (listed.setIfInBounds i4 true) a w) → K' a w) → if Region.wanted o4 (yielded l.toArray a.tmps) = true then Oper.wp P o4 a w K' Q else K' (a.put o4.dst undef) w) :
    wpAnyH P md l.toArray Q S (fuel + 1) listed a w := by
  have g0 : l.toArray[i0]? = some o0 := by
    have h0 : (l.drop i0)[0]? = some o0 := by rw [hd0]; rfl
    simpa using h0
  have g1 : l.toArray[i1]? = some o1 := by
    have h0 : (l.drop i1)[0]? = some o1 := by rw [hd1]; rfl
    simpa using h0
  have g2 : l.toArray[i2]? = some o2 := by
    have h0 : (l.drop i2)[0]? = some o2 := by rw [hd2]; rfl
    simpa using h0
  have g3 : l.toArray[i3]? = some o3 := by
    have h0 : (l.drop i3)[0]? = some o3 := by rw [hd3]; rfl
    simpa using h0
  have g4 : l.toArray[i4]? = some o4 := by
    have h0 : (l.drop i4)[0]? = some o4 := by rw [hd4]; rfl
    simpa using h0
  exact wpAnyH_ready hr (by simp) (AllReadyH.cons g0 h0 (AllReadyH.cons g1 h1 (AllReadyH.cons g2 h2 (AllReadyH.cons g3 h3 (AllReadyH.cons g4 h4 AllReadyH.nil)))))
/-- In a region that draws its order: a whole array's load, under an S that gives its block. -/
theorem yieldsIf_row {P : Program} {ops : Array Oper} {S : World → Prop} {o : Oper} {a : Act} (hw : Region.wanted o (yielded ops a.tmps) = true) {ty : TypeId} {x : Operand} (ho : o.op = .load ty x)
    {g : Nat} (hx : a.eval x = .pointer (some ⟨g, 0, none⟩)) {t : TypeId} {cs : Array Value} {fr : Nat × Nat} {n : Nat} {e : TypeId} (hu : P.underlying ty = some (.array n e)) (hi : (P.info? ty).map (·.size) = some cs.size)
    (hS : ∀ w, S w → w.heap[g]? = some (.cells cs t fr)) : YieldsIf P ops S o (.agg cs) a :=
  .inl ⟨hw, fun w hw' => by
    unfold execOp
    simp only [ho, hx, Instr.loadAt, Instr.sureAddr, Sem.run_bind, Sem.run_pure, Result.andThen_ok, run_loadVar_row w g t ty cs fr _ (hS w hw') hu rfl hi]⟩

end Go.Proofs.YtjhfoddhpmmjoaaDoor
