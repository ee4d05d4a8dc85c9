/-
  A slice of references that a call makes by 'append' from nothing: what it holds, and 'append' once more. Conditions: references of 32 bytes' sums; not too many.
  PoolTold: what stays of a pool under it. Condition: the blocks are its own.
-/
import Derived.Test.YtjhfoddhpmmjoaaDoorQBegin18
import Derived.Great.BuildSlice
namespace Go.Proofs.YtjhfoddhpmmjoaaDoor
set_option maxRecDepth 100000
open Go.RowKit Go.Maps

def flatR : List (Nat × List Nat) → List Value
  | [] => []
  | p :: L => refL p.1 p.2 ++ flatR L
def Sums32 (L : List (Nat × List Nat)) : Prop := ∀ p ∈ L, p.2.length = 32 ∧ ∀ y ∈ p.2, y < 256
theorem refL_length {x : Nat} {s : List Nat} (h : s.length = 32) : (refL x s).length = 33 := by simp [refL, u8l, h]
theorem flatR_length : ∀ (L : List (Nat × List Nat)), Sums32 L → (flatR L).length = L.length * 33
  | [], _ => rfl
  | p :: L, h => by
    have := flatR_length L (fun q hq => h q (List.mem_cons_of_mem _ hq))
    simp only [flatR, List.length_append, refL_length (h p List.mem_cons_self).1, this, List.length_cons]
    omega
theorem flatR_snoc : ∀ (L : List (Nat × List Nat)) (p : Nat × List Nat), flatR (L ++ [p]) = flatR L ++ refL p.1 p.2
  | [], p => by simp [flatR]
  | q :: L, p => by simp [flatR, flatR_snoc L p]
theorem flatR_get : ∀ (L : List (Nat × List Nat)), Sums32 L → ∀ (i : Nat) (p : Nat × List Nat), L[i]? = some p → ∀ (j : Nat) (u : Value), (refL p.1 p.2)[j]? = some u → (flatR L)[i * 33 + j]? = some u
  | [], _, i, p, h, _, _, _ => by simp at h
  | q :: L, hs, 0, p, h, j, u, hj => by
    simp at h
    subst h
    rw [Nat.zero_mul, Nat.zero_add]
    show (refL q.1 q.2 ++ flatR L)[j]? = some u
    rw [List.getElem?_append_left (List.getElem?_eq_some_iff.1 hj).1]; exact hj
  | q :: L, hs, i + 1, p, h, j, u, hj => by
    have := flatR_get L (fun r hr => hs r (List.mem_cons_of_mem _ hr)) i p (by simpa using h) j u hj
    have hl := refL_length (x := q.1) (hs q List.mem_cons_self).1
    show (refL q.1 q.2 ++ flatR L)[(i + 1) * 33 + j]? = some u
    rw [List.getElem?_append_right (by rw [hl]; omega), hl, show (i + 1) * 33 + j - 33 = i * 33 + j by omega]
    exact this
structure ROwn (w : World) (base : Nat) (v : Value) (L : List (Nat × List Nat)) : Prop where
  row : w.ownsRow base 76 33 v L.length (flatR L)
  sums : Sums32 L
section
variable {w w' : World} {base : Nat} {v : Value} {L : List (Nat × List Nat)}
theorem ROwn.nil (w : World) (base : Nat) : ROwn w base (.slice none 0 0) [] := ⟨World.ownsRow_nil _ _ _ _, fun p h => by simp at h⟩
theorem ROwn.lt (h : ROwn w base v L) : ∀ k, v.ownBlock = some k → base ≤ k ∧ k < w.heap.size := World.ownsRow.lt h.row
theorem ROwn.other (h : ROwn w base v L) (hb : ∀ k, v.ownBlock = some k → w'.heap[k]? = w.heap[k]?) : ROwn w' base v L := by
  refine ⟨⟨h.row.1, ?_⟩, h.sums⟩
  rcases h.row.2 with hn | ⟨g, cap, cur, rfl, hb0, hgg, rest⟩
  · exact .inl hn
  · exact .inr ⟨g, cap, cur, rfl, hb0, (hb g rfl).trans hgg, rest⟩
theorem ROwn.below (h : ROwn w base v L) (hB : Below w.heap.size w w') : ROwn w' base v L := h.other fun k hk => hB.block k (h.lt k hk).2
theorem ROwn.form (h : ROwn w base v L) : ∃ ao cap, v = .slice ao L.length cap ∧ L.length ≤ cap ∧ ∀ i p, L[i]? = some p → ∃ g, ao = some ⟨g, 0, none⟩ ∧ w.rangeAt g (i * 33) (refL p.1 p.2) := by
  have hc := fun g hg => World.ownsRow.cells h.row (g := g) hg
  rcases h.row.2 with ⟨rfl, h0⟩ | ⟨g, cap, cur, rfl, _, hgg, h1, h2, h3, h4⟩
  · refine ⟨none, 0, by rw [h0], by omega, fun i p hp => ?_⟩
    have := (List.getElem?_eq_some_iff.1 hp).1
    omega
  · refine ⟨_, cap, rfl, h1, fun i p hp => ⟨g, rfl, fun j u hj => ?_⟩⟩
    have := hc g rfl (i * 33 + j) u (flatR_get L h.sums i p hp j u hj)
    rwa [Addr.add_lit, Nat.zero_add] at this
end
theorem infoRefAll : (Tryd.prog.info? 76).map (fun i => (i.zero, i.size, i.bytes)) = some (some (.agg (refV 0 noughts32)), 33, 36) := by kernel_rfl
theorem refInfo : ∃ i, Tryd.prog.info? 76 = some i ∧ i.zero = some (.agg (refV 0 noughts32)) ∧ i.size = 33 ∧ i.bytes = 36 := by
  have hinfo := infoRefAll
  cases hq : Tryd.prog.info? 76 with
  | none => simp [hq] at hinfo
  | some i => simp [hq] at hinfo; exact ⟨i, rfl, hinfo.1, hinfo.2.1, hinfo.2.2⟩
theorem ROwn.push {w : World} {base : Nat} {v : Value} {L : List (Nat × List Nat)} (h : ROwn w base v L) (hbase : base ≤ w.heap.size) {x : Nat} {s : List Nat} (hs : s.length = 32) (hss : ∀ y ∈ s, y < 256) {hb : Nat} (hc : w.heap[hb]? = some (.cells (refV x s) 76 (0, 0))) (hl : L.length < 1000000000) (ty : TypeId) :
    ∃ v' w', (Builtin.append_ #[96, 96] ty #[v, .slice (some ⟨hb, 0, none⟩) 1 1]).run Tryd.prog w = .ok v' w' ∧ ROwn w' base v' (L ++ [(x, s)]) ∧ w.grownBy w' v.ownBlock ∧ (v'.ownBlock = v.ownBlock ∨ v'.ownBlock = some w.heap.size) ∧ ∃ ao n c, v' = .slice ao n c := by
  obtain ⟨i, hi, hz, hsz, hby⟩ := refInfo
  have news : ∀ j u, (refL x s)[j]? = some u → w.cell? ((⟨hb, 0, none⟩ : Addr).add j) = some u := fun j u hj => by
    rw [Addr.add_lit, Nat.zero_add, cell_of_row _ _ _ _ _ _ hc]
    simpa [refV] using hj
  have one : ∀ u ∈ refL x s, u.oneCell' = true := fun u hu => by
    have := refV_one x s
    rw [Array.all_eq_true_iff_forall_mem] at this
    exact this u (by simpa [refV] using hu)
  obtain ⟨v', w', hr, h2, h3, _, h5⟩ := run_append_own_at (P := Tryd.prog) w base 96 ty 76 i _ 33 36 Tryd.underlying96 hi hz hsz hby (refV_size 0 noughts32_length) (by decide) v L.length (flatR L) h.row ⟨hb, 0, none⟩ 1 1 (refL x s) (by rw [refL_length hs]) news one (by simp only [maxLen]; omega) (by omega) hbase
  refine ⟨v', w', hr, ⟨?_, fun p hp => ?_⟩, h3, h5, ?_⟩
  · rw [flatR_snoc, List.length_append]; exact h2
  · rcases List.mem_append.1 hp with hp | hp
    · exact h.sums p hp
    · rw [List.mem_singleton.1 hp]; exact ⟨hs, hss⟩
  · rcases h2.2 with ⟨_, h0⟩ | ⟨g, cap, cur, rfl, _⟩
    · omega
    · exact ⟨_, _, _, rfl⟩
theorem wp_build_ref {w : World} {o : Oper} {a : Act} {K : Act → World → Prop} {Q : Exit → Act → World → Prop} (x : Operand) (ho : o.op = .buildSlice 96 1 #[(0, x)]) {n : Nat} {s : List Nat} (hs : s.length = 32) (hx : a.eval x = .agg (refV n s))
    (h : K (a.put o.dst (.slice (some ⟨w.heap.size, 0, none⟩) 1 1)) (w.alloc (.cells (refV n s) 76))) : o.wp Tryd.prog a w K Q := by
  obtain ⟨i, hi, hz, hsz, hby⟩ := refInfo
  refine wp_buildSlice 96 76 1 #[(0, x)] ho (refV n s) i _ Tryd.underlying96 hi hz (by rw [hsz]; decide) (by rw [hsz]; decide) ?_ h
  have e : (#[((0 : Nat), x)].map fun ((i : Nat), x) => (i, a.eval x)).toList = [(0, .agg (refV n s))] := by simp [hx]
  rw [e, hsz]
  obtain ⟨A, hA⟩ : ∃ A : Array Value, A = (Array.range (1 * 33)).map ((Value.agg (refV 0 noughts32)).cells[· % (Value.agg (refV 0 noughts32)).cells.size]!) := ⟨_, rfl⟩
  rw [← hA]
  have hl : A.toList.length = 33 := by rw [hA]; simp
  have eA : A = A.toList.toArray := by simp
  rw [eA, fill_putR _ 0 0 A.toList (refL n s) _ _ rfl (by rw [refL_length hs]) (by rw [refL_length hs, hl]; decide)]
  simp only [Instr.fill, refV]
  congr 2
  rw [refL_length hs, List.drop_eq_nil_of_le (by omega)]
  simp
theorem wpList_build_ref {w : World} {ops : Array Oper} {rest : List Oper} {o : Oper} {a : Act} {Q : Exit → Act → World → Prop} (hg : o.guard = none) (x : Operand) (ho : o.op = .buildSlice 96 1 #[(0, x)]) {n : Nat} {s : List Nat} (hs : s.length = 32) (hx : a.eval x = .agg (refV n s))
    (h : wpList Tryd.prog ops Q rest (a.put o.dst (.slice (some ⟨w.heap.size, 0, none⟩) 1 1)) (w.alloc (.cells (refV n s) 76))) : wpList Tryd.prog ops Q (o :: rest) a w :=
  wpList_plain hg fun _ hK => wp_build_ref x ho hs hx (hK _ _ h)
end Go.Proofs.YtjhfoddhpmmjoaaDoor
namespace Go.Proofs.YtjhfoddhpmmjoaaDoor
set_option maxRecDepth 100000
open Go.RowKit Go.Maps

/-- The tenants behind i Puts of the third. -/
def E12 (i : Nat) : Nat → Ten := setT (EB 3) 3 ⟨true, 3, 12, i⟩
theorem e12_take : ∀ i, i < 12 → takeE 20 (E12 i) 3 = 0 := by decide
theorem e12_0 : EB 3 = E12 0 := by
  funext k
  unfold E12
  by_cases e : k = 3
  · subst e; rw [setT_same]; rfl
  · rw [setT_other _ _ e]
theorem e12_bump (i : Nat) : bumpT (E12 i) 3 = E12 (i + 1) := by
  funext k
  unfold bumpT E12
  by_cases e : k = 3
  · subst e; rw [setT_same, setT_same, setT_same]
  · rw [setT_other _ _ e, setT_other _ _ e, setT_other _ _ e]
theorem calm_write {D : Dk} {s len : Nat} (h1 : D.down = false) (h2 : D.plan = false) (h3 : s < D.n) (h4 : len = 512) : D.writeE s len = 0 := by
  unfold Dk.writeE
  rw [if_neg (by rw [h1]; decide), if_neg (by omega), if_neg (by simp [h4])]
  unfold Dk.changeE
  rw [if_neg (by rw [h2]; simp)]
theorem mem_addT_old {T : List (List Nat)} {t u : List Nat} (h : t ∈ T) : t ∈ addT T u := by
  by_cases hin : u ∈ T
  · rw [addT_in hin]; exact h
  · rw [addT_out hin]; exact List.mem_append_left _ h
theorem mem_addT_self (T : List (List Nat)) (u : List Nat) : u ∈ addT T u := by
  by_cases hin : u ∈ T
  · rw [addT_in hin]; exact hin
  · rw [addT_out hin]; simp
/-- A pool, and the references that it told. -/
structure ToldSt (w0 w : World) (l : Pl) (R : Nat → Prop) (s : Ps) (k : Nat) (lv : Value) (L : List (Nat × List Nat)) (P : Nat → Nat) : Prop where
  st : PlSt w0 w l R s
  n : s.n = 20
  start : s.start = 5
  le : s.Le k
  up : s.D.down = false
  calm : s.D.plan = false
  refs : ROwn w w0.heap.size lv L
  apart : ∀ k, lv.ownBlock = some k → ¬ R k
  told : ∀ i p, L[i]? = some p → p.1 < 20 ∧ p.2 = sumOf (fullT (P i) 0) ∧ fullT (P i) 0 ∈ s.T
  short : Short s.T
section
variable {w0 w w' : World} {l : Pl} {R R' : Nat → Prop} {s s' : Ps} {k k' : Nat} {lv lv' : Value} {L : List (Nat × List Nat)} {P : Nat → Nat}
theorem ToldSt.below (h : ToldSt w0 w l R s k lv L P) (hB : Below w.heap.size w w') : ToldSt w0 w' l R s k lv L P := { h with st := h.st.below hB, refs := h.refs.below hB }
theorem ToldSt.fit (h : ToldSt w0 w l R s k lv L P) : s.start + s.n ≤ s.D.n := by obtain ⟨FD, FL, h1, _⟩ := h.st.p; exact h1.fit
/-- The pool turned. -/
theorem ToldSt.turn (h : ToldSt w0 w l R s k lv L P) (st' : PlSt w0 w' l R' s') (hR : ∀ k, R' k → R k ∨ w.heap.size ≤ k) (hU : Upd R w w') (hn : s'.n = s.n) (hs : s'.start = s.start) (hle : s'.Le k') (hd : s'.D.down = false) (hp : s'.D.plan = false) (hT : ∀ t ∈ s.T, t ∈ s'.T) (hsh : Short s'.T) : ToldSt w0 w' l R' s' k' lv L P :=
  ⟨st', hn.trans h.n, hs.trans h.start, hle, hd, hp, h.refs.other (fun k hk => hU.block k (h.refs.lt k hk).2 (h.apart k hk)), fun k hk hr => by
    rcases hR k hr with q | q
    · exact h.apart k hk q
    · have := (h.refs.lt k hk).2; omega, fun i p hp => by
    obtain ⟨a, b, c⟩ := h.told i p hp
    exact ⟨a, b, hT _ c⟩, hsh⟩
/-- A Put that was done. -/
theorem PutRel.calm {s s' : Ps} {E : Int} {b sum : List Nat} {x i : Nat} (h : PutRel s 3 b x sum E s') (hb : b.length = 512) (hn : s.n = 20) (hE : s.E = E12 i) (hi : i < 12) (hd : s.D.down = false) (hp : s.D.plan = false) (hf : s.start + s.n ≤ s.D.n) :
    E = 0 ∧ x < 20 ∧ sum = sumOf b ∧ s'.n = s.n ∧ s'.start = s.start ∧ s'.E = E12 (i + 1) ∧ s'.T = addT s.T b ∧ s'.D.down = false ∧ s'.D.plan = false := by
  have ht : takeE s.n s.E 3 = 0 := by rw [hn, hE]; exact e12_take i hi
  obtain ⟨y, hy, _, _, h3⟩ := h.done hb ht
  have hw : s.D.writeE (s.start + y) b.length = 0 := calm_write hd hp (by omega) hb
  rcases h3 with ⟨hne, _⟩ | ⟨_, rfl, rfl, rfl, rfl⟩
  · exact absurd hw hne
  · obtain ⟨e1, _, _, _, hc⟩ := write_ok hw
    refine ⟨rfl, by omega, rfl, rfl, rfl, ?_, rfl, (write_look hw).2.2, ?_⟩
    · show bumpT s.E 3 = _
      rw [hE, e12_bump]
    · show (s.D.writeD (s.start + x) b).plan = false
      rw [e1]
      show s.D.changeD.plan = false
      rw [(changeD_ok hc).2.2, hp]
/-- A reference more. -/
theorem ToldSt.push (h : ToldSt w0 w l R s k lv L P) {x : Nat} {sum : List Nat} (hx : x < 20) (hs : sum.length = 32) (hss : ∀ y ∈ sum, y < 256) (he : sum = sumOf (fullT (P L.length) 0)) (hT : fullT (P L.length) 0 ∈ s.T) {hb : Nat} (hc : w.heap[hb]? = some (.cells (refV x sum) 76 (0, 0))) (hl : L.length < 1000) (ty : TypeId) :
    ∃ v' w', (Builtin.append_ #[96, 96] ty #[lv, .slice (some ⟨hb, 0, none⟩) 1 1]).run Tryd.prog w = .ok v' w' ∧ ToldSt w0 w' l R s k v' (L ++ [(x, sum)]) P ∧ ∃ ao n c, v' = .slice ao n c := by
  obtain ⟨v', w', hr, h1, h2, h3, h4⟩ := h.refs.push h.st.low.size hs hss hc (by omega) ty
  have U : Upd (fun k => lv.ownBlock = some k) w w' := ⟨h2.os, h2.tape, h2.output, h2.size, fun k hk hn => h2.block k hk (fun e => hn e.symm)⟩
  refine ⟨v', w', hr, ⟨h.st.stay U (fun k hk e => h.apart k e hk) (fun k e => (h.refs.lt k e).1), h.n, h.start, h.le, h.up, h.calm, h1, fun k hk hr => ?_, fun i p hp => ?_, h.short⟩, h4⟩
  · rcases h3 with h3 | h3
    · exact h.apart k (h3.symm.trans hk) hr
    · rw [h3] at hk; cases hk
      exact Nat.lt_irrefl _ (h.st.p.lt hr)
  · by_cases hi : i < L.length
    · rw [List.getElem?_append_left hi] at hp
      exact h.told i p hp
    · rw [List.getElem?_append_right (by omega)] at hp
      obtain ⟨j, hj⟩ : ∃ j, j = i - L.length := ⟨_, rfl⟩
      rw [← hj] at hp
      cases j with
      | zero =>
        simp at hp
        subst hp
        have : i = L.length := by omega
        subst this
        exact ⟨hx, he, hT⟩
      | succ j => simp at hp
end
end Go.Proofs.YtjhfoddhpmmjoaaDoor
