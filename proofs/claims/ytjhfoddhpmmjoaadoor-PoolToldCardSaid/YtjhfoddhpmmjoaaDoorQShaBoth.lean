/-
  sha's New and Sum. Conditions: the hash holds a text that is not too long.
  sha's Both and Sum of texts; Write and Sum of a hash that is none. Conditions: the texts are not too long.
-/
import Derived.Test.YtjhfoddhpmmjoaaDoorQShaWrite
import Derived.Test.YtjhfoddhpmmjoaaDoorQOctetPut
import Derived.StillTailTactics
import Derived.Deep.RegionHeld3
import Derived.Deep.RegionWith
import Derived.IntWalk
namespace Go.Proofs.YtjhfoddhpmmjoaaDoor
set_option maxRecDepth 100000
open Go.RowKit

theorem hashP_new {w : World} {b : Nat} (h : w.heap[b]? = some (.cells (hashCells shaH (List.replicate 64 0) 0 0) 156 (0, 0))) : HashP w b [] 0 :=
  ⟨⟨List.replicate 64 0, ⟨rfl, rfl, small_shaH, by simp, h⟩, fun i hi => by simp at hi⟩, by simp⟩

set_option maxRecDepth 100000 in
theorem snew_any (w : World) : Calls Tryd.prog 88 #[] w fun e w' => ∃ b, w.heap.size ≤ b ∧ e = .returned (.pointer (some ⟨b, 0, none⟩)) ∧ HashP w' b [] 0 ∧ Below w.heap.size w w' := by
  have st := Lib.hid (start_any w)
  go_enter Tryd.func88, Tryd.ntmps88
  go_wp2_with fail
  refine st.out.mono ?_
  rintro e w1 ⟨rfl, hB⟩
  have hs := hB.size
  have hf : HashP (w1.alloc (.cells (hashCells shaH (List.replicate 64 0) 0 0) 156)) w1.heap.size [] 0 ∧ Below w.heap.size w (w1.alloc (.cells (hashCells shaH (List.replicate 64 0) 0 0) 156)) :=
    ⟨hashP_new (heap_alloc_new _ _), hB.alloc hs _⟩
  replace hf := Lib.hid hf
  replace hB := Lib.hid hB
  go_wp2_with (refine wpList_build_is rfl 156 _ rfl (hashCells shaH (List.replicate 64 0) 0 0) (by kernel_rfl) ?_)
  go_ret
  exact ⟨_, hs, rfl, hf.out⟩

theorem alloc_row {w : World} {b : Nat} {o x : Obj} (h : w.heap[b]? = some o) : (w.alloc x).heap[b]? = some o := by
  rw [heap_alloc_old (h := lt_of_block h)]; exact h
theorem alloc_at {w : World} {b : Nat} {x : Obj} (h : b = w.heap.size) : (w.alloc x).heap[b]? = some x := by
  rw [h]; exact heap_alloc_new _ _
theorem hashCells_one (h buf : List Nat) (n c : Nat) : (hashCells h buf n c).all (·.oneCell') = true := by
  simp [hashCells, Value.oneCell']
/-- The world under a name. -/
theorem name_world {P : Program} {ops : Array Oper} {rest : List Oper} {a : Act} {w : World} {Q : Exit → Act → World → Prop} (h : ∀ w1, Hid (w1 = w) → wpList P ops Q rest a w1) : wpList P ops Q rest a w := h w rfl
theorem size_hashCells {h buf : List Nat} {n c : Nat} (h1 : h.length = 8) (h2 : buf.length = 64) : (hashCells h buf n c).size = 75 := by simp [hashCells, h1, h2]
theorem HashRaw.words {w : World} {b : Nat} {h buf : List Nat} {n count : Nat} (H : HashRaw w b h buf n count) : w.rangeAt b 1 (u32s h).toList := by
  intro j v hj
  have h1 := H.lh
  have hj8 : j < 8 := by
    have := (List.getElem?_eq_some_iff.1 hj).1
    simp [u32s] at this; omega
  rw [H.ch j hj8, ← hj]
  simp [u32s, List.getD, show j < h.length by omega]

theorem write_one (w : World) (E : Nat) (t : List Nat) (c g x : Nat) (H : HashP w E t c) (hx : x < 256) (hg : w.cell? ⟨g, 0, none⟩ = some (.int .u8 (x : Int))) (hgE : g ≠ E) (hc : c + 1 < 1000000000000) :
    Calls Tryd.prog 89 #[.pointer (some ⟨E, 0, none⟩), .slice (some ⟨g, 0, none⟩) 1 1] w fun e w' => e = .returned (.int .i64 0) ∧ HashP w' E (t ++ [x]) (c + 1) ∧ Upd (fun i => i = E) w w' :=
  write_any w E t c _ 1 1 (fun _ => x) H (Nat.le_refl _) hc (fun i hi => ⟨hx, g, 0, rfl, by rw [show 0 + i = 0 by omega]; exact hg⟩) (fun _ ob oo e => by cases e; exact hgE)
theorem write_row (w : World) (E : Nat) (t : List Nat) (c g n ty : Nat) (d : List Nat) (H : HashP w E t c) (hd : ∀ x ∈ d, x < 256) (hn : d.length = n) (hg : RowB w g ty d) (hgE : g ≠ E) (hc : c + n < 1000000000000) :
    Calls Tryd.prog 89 #[.pointer (some ⟨E, 0, none⟩), .slice (some ⟨g, 0, none⟩) n n] w fun e w' => e = .returned (.int .i64 0) ∧ HashP w' E (t ++ d) (c + n) ∧ Upd (fun i => i = E) w w' := by
  have := write_any w E t c (some ⟨g, 0, none⟩) n n (byt d) H (Nat.le_refl _) hc (fun i hi => ⟨byt_lt hd i, g, 0, rfl, by rw [Nat.zero_add]; exact hg.byt (by omega)⟩) (fun _ ob oo e => by cases e; exact hgE)
  rw [← hn, bytesOf_byt] at this
  rw [← hn]; exact this

/-- The sum's bytes, the words up to k put. -/
def digTo (h : List Nat) (k : Nat) : List Nat := (h.take k).flatMap (beBytes 4) ++ List.replicate (32 - 4 * k) 0
theorem digTo_zero (h : List Nat) : digTo h 0 = List.replicate 32 0 := by simp [digTo]
/-- What holds while Sum writes behind its copy E. -/
structure SumSt (w wr : World) (E D : Nat) (T : List Nat) (c : Nat) (d : List Nat) : Prop where
  hE : E = w.heap.size + 2
  hD : w.heap.size + 3 ≤ D
  P : HashP wr E T c
  R : RowB wr w.heap.size 74 (List.replicate 32 0)
  O : RowB wr (w.heap.size + 1) 74 (List.replicate 32 0)
  D : RowB wr D 5 d
  B : Below w.heap.size w wr
theorem SumSt.alloc {w wr : World} {E D c : Nat} {T d : List Nat} (h : SumSt w wr E D T c d) (x : Obj) : SumSt w (wr.alloc x) E D T c d :=
  ⟨h.hE, h.hD, h.P.stay (S := fun _ => False) ((Upd.refl _ _).alloc _) id, alloc_row h.R, alloc_row h.O, alloc_row h.D, h.B.alloc h.B.size _⟩
theorem SumSt.upd {w wr w' : World} {E D c c' : Nat} {T T' d : List Nat} (h : SumSt w wr E D T c d) (hP : HashP w' E T' c') (hU : Upd (fun i => i = E) wr w') : SumSt w w' E D T' c' d :=
  ⟨h.hE, h.hD, hP, h.R.other (hU.block _ h.R.lt (by have := h.hE; omega)), h.O.other (hU.block _ h.O.lt (by have := h.hE; omega)), h.D.other (hU.block _ h.D.lt (by have := h.hE; have := h.hD; omega)),
    h.B.trans (hU.below (fun i hi e => by have := h.hE; omega) h.B.size)⟩
theorem SumSt.lt {w wr : World} {E D c : Nat} {T d : List Nat} (h : SumSt w wr E D T c d) : E < wr.heap.size := h.P.lt
theorem SumSt.cn {w wr : World} {E D c : Nat} {T d : List Nat} (h : SumSt w wr E D T c d) : wr.cell? ⟨E, 73, none⟩ = some (.int .i64 ((T.length % 64 : Nat) : Int)) := by
  obtain ⟨buf, h1, _⟩ := h.P.raw
  exact h1.cn
/-- The word of the hash that counts the bytes of its buffer. -/
def waits (w : World) (E : Nat) : Nat := match w.cell? ⟨E, 73, none⟩ with
  | some (.int _ n) => n.toNat
  | _ => 0
theorem SumSt.waits {w wr : World} {E D c : Nat} {T d : List Nat} (h : SumSt w wr E D T c d) : waits wr E = T.length % 64 := by
  unfold Go.Proofs.YtjhfoddhpmmjoaaDoor.waits; rw [h.cn]; rfl

/-- A row that the call made, and a slot. -/
theorem ret_row2 {P : Program} {fn : Func} {R : Ending → World → Prop} {a : Act} {w : World} {p q : Tmp} {ty : TypeId} (hr : fn.results = #[.cell p ty, .tmp q]) (hd : a.defers = []) (g : Nat) (t : TypeId) (cs : Array Value) (fr : Nat × Nat) (d : TypeDesc)
    (hp : a.tmps.getD p undef = .pointer (some ⟨g, 0, none⟩)) (hg : w.heap[g]? = some (.cells cs t fr)) (hu : P.underlying ty = some d) (hrow : (match d with | .struct _ | .array _ _ => true | _ => false) = true)
    (hi : (P.info? ty).map (·.size) = some cs.size) (hR : R (.returned (.tuple #[.agg cs, a.tmps.getD q undef])) w) : bodyPost P fn R .ret a w := by
  refine bodyPost_ret (v := .tuple #[.agg cs, a.tmps.getD q undef]) ?_ hd hR
  have hp' : a.tmps[p]?.getD undef = .pointer (some ⟨g, 0, none⟩) := by simpa using hp
  simp [results, hr, hp', asAddr, run_loadVar_row w g t ty cs fr d hg hu hrow hi]

/-- 'copy' in a region that draws its order, the world behind it told whole. -/
theorem step_copy_row {P : Program} {ops : Array Oper} {o : Oper} {a : Act} {w : World} {K : Act → World → Prop} {Q : Exit → Act → World → Prop} {E : Prop} (hgd : o.guard = none) (d s : Operand) (dT sT : TypeId)
    (ho : o.op = .call { callee := .builtin .copy, args := #[d, s], argTypes := #[dT, sT] }) (elem : TypeId) (hu : P.underlying dT = some (.slice elem)) (hsz : (P.info? elem).map (·.size) = some 1)
    (g off dLen dCap : Nat) (ad : Addr) (sLen sCap : Nat) (hd : a.eval d = .slice (some ⟨g, off, none⟩) dLen dCap) (hs : a.eval s = .slice (some ad) sLen sCap)
    (cur : Array Value) (t : TypeId) (hg : w.heap[g]? = some (.cells cur t (0, 0))) (cs : List Value) (hn : cs.length = Nat.min sLen dLen)
    (hsrc : ∀ j v, cs[j]? = some v → w.cell? (ad.add j) = some v) (hfit : off + cs.length ≤ cur.size) (h1 : ∀ v ∈ cs, v.oneCell' = true)
    (X : Array Value) (hX : (cur.toList.take off ++ (cs ++ cur.toList.drop (off + cs.length))).toArray = X)
    (h : ∀ w', Hid (w' = w.setRow g X) → K (a.put o.dst (goInt cs.length)) w') : if Region.wanted o (yielded ops a.tmps) = true then Oper.wp P o a w K Q else E := by
  have hw : Region.wanted o (yielded ops a.tmps) = true := by simp [Region.wanted, hgd]
  rw [if_pos hw]
  have hrun := run_copy_row (P := P) w dT sT o.type elem g off dLen dCap ad sLen sCap cur t cs hu hsz hg hn hsrc hfit h1
  unfold Oper.wp
  simp [execOp, ho, resolve, invoke, builtin, hd, hs, hrun, Result.andThen]
  exact h _ (by rw [hX]; exact rfl)
theorem putBuf_row (buf d : List Nat) (n : Nat) : ((u8s buf).toList.take n ++ (u8l d ++ (u8s buf).toList.drop (n + (u8l d).length))).toArray = u8s (putBuf buf n d) := by
  simp [u8s, u8l, putBuf, List.map_take, List.map_drop]
theorem length_digTo {h : List Nat} (hl : h.length = 8) {k : Nat} (hk : k ≤ 8) : (digTo h k).length = 32 := by
  have : ((h.take k).flatMap (beBytes 4)).length = 4 * k := by
    have : ∀ l : List Nat, (l.flatMap (beBytes 4)).length = 4 * l.length := fun l => by
      induction l with
      | nil => rfl
      | cons a l ih => simp [ih]; omega
    rw [this, List.length_take]; omega
  simp [digTo, this]; omega
theorem digTo_put {h : List Nat} (hl : h.length = 8) {k : Nat} (hk : k < 8) : putBuf (digTo h k) (4 * k) (beBytes 4 (h.getD k 0)) = digTo h (k + 1) := by
  have hlen : ∀ l : List Nat, (l.flatMap (beBytes 4)).length = 4 * l.length := fun l => by
    induction l with
    | nil => rfl
    | cons a l ih => simp [ih]; omega
  have h1 : ((h.take k).flatMap (beBytes 4)).length = 4 * k := by rw [hlen, List.length_take]; omega
  have h2 : h.take (k + 1) = h.take k ++ [h.getD k 0] := by
    rw [List.take_add_one]; simp [List.getD, show k < h.length by omega]
  unfold putBuf digTo
  rw [List.take_append, h1, Nat.sub_self, List.take_zero, List.append_nil, List.take_of_length_le (by omega)]
  rw [List.drop_append, h1, List.drop_eq_nil_of_le (by omega), List.nil_append, h2, List.flatMap_append]
  simp only [List.flatMap_cons, List.flatMap_nil, List.append_nil, List.append_assoc, length_beBytes, List.drop_replicate]
  congr 3
  omega

theorem size_sumOf (t : List Nat) : (u8s (sumOf t)).size = 32 := by
  have h := length_digTo (length_hashOf (filled t)) (Nat.le_refl 8)
  have e : digTo (hashOf (filled t)) 8 = sumOf t := by
    unfold digTo sumOf
    rw [List.take_of_length_le (by rw [length_hashOf]; omega)]; simp
  rw [e] at h
  simp [u8s, h]
theorem run_sum (b k : Nat) (hk : k < 8) : ∀ x, (Instr.sliceAt 74 (.pointer (some ⟨b, 0, none⟩)) (some (.int .i64 (4 * (k : Int)))) none none).run Tryd.prog x = .ok (.slice (some ⟨b, 4 * k, none⟩) (32 - 4 * k) (32 - 4 * k)) x := by
  intro x
  have hl : Tryd.prog.arrayLen 74 = 32 := by kernel_rfl
  have hu : Tryd.prog.underlying 74 = some (.array (Tryd.prog.arrayLen 74) (Tryd.prog.elem 74)) := by kernel_rfl
  rw [run_sliceAt_array_l (P := Tryd.prog) x 74 _ hu .i64 (4 * (k : Int)) (by omega) (by rw [hl]; omega), hl]
  have hs : (sizeOf (Tryd.prog.elem 74)).run Tryd.prog x = .ok 1 x := by
    obtain ⟨i, hi, h1⟩ : ∃ i, Tryd.prog.info? (Tryd.prog.elem 74) = some i ∧ i.size = 1 := by
      have h1 : (Tryd.prog.info? (Tryd.prog.elem 74)).map (·.size) = some 1 := by kernel_rfl
      cases hq : Tryd.prog.info? (Tryd.prog.elem 74) with
      | none => simp [hq] at h1
      | some i => exact ⟨i, rfl, by simpa [hq] using h1⟩
    simp [sizeOf, typeInfo, hi, h1]
  have hn : (4 * (k : Int)).toNat = 4 * k := by omega
  rw [hs, hn]
  simp only [Result.andThen, slicedAt, Nat.mul_one]
  rw [if_neg (by omega), Addr.add_lit, Nat.zero_add]

set_option maxRecDepth 100000 in
theorem sum_any (w : World) (b : Nat) (t : List Nat) (H : HashP w b t t.length) (hlen : t.length < 1000000000) :
    Calls Tryd.prog 90 #[.pointer (some ⟨b, 0, none⟩)] w fun e w' => e = .returned (.tuple #[.agg (u8s (sumOf t)), .int .i64 0]) ∧ Below w.heap.size w w' := by
  obtain ⟨buf, H0, hbuf⟩ := H.raw
  have c0 := H0.c0
  have hcells := H0.cells
  have hblt := H.lt
  have hsz : (Tryd.prog.info? 156).map (·.size) = some (hashCells (hashOf t) buf (t.length % 64) t.length).size := by
    have h1 := H0.lh
    have h2 := H0.lb
    have : (hashCells (hashOf t) buf (t.length % 64) t.length).size = 75 := by simp [hashCells, h1, h2]
    have e : (Tryd.prog.info? 156).map (·.size) = some 75 := by kernel_rfl
    rw [this]; exact e
  replace H0 := Lib.hid H0
  replace hbuf := Lib.hid hbuf
  replace H := Lib.hid H
  replace hcells := Lib.hid hcells
  go_enter Tryd.func90, Tryd.ntmps90
  have hold : (Tryd.zeroCells156).size = (hashCells (hashOf t) buf (t.length % 64) t.length).size := by
    rw [size_hashCells H0.out.lh H0.out.lb]
    have e : (Tryd.zeroCells156).size = 75 := by kernel_rfl
    exact e
  have hone := hashCells_one (hashOf t) buf (t.length % 64) t.length
  go_wp2_with (first
    | (refine wpList_load_row rfl 156 (.tmp 20) rfl b rfl 156 (hashCells (hashOf t) buf (t.length % 64) t.length) (0, 0) _ (alloc_row (alloc_row hcells.out)) Tryd.underlying156 rfl hsz ?_; refine name_world ?_; intro w1 hw1)
    | (refine wpList_store_row rfl 156 (.tmp 5) (.tmp 21) rfl w1.heap.size (hashCells (hashOf t) buf (t.length % 64) t.length) rfl rfl 156 Tryd.zeroCells156 (heap_alloc_new _ _) hsz hold hone ?_; refine name_world ?_; intro w2 hw2
       have e1 : w1.heap.size = w.heap.size + 2 := by rw [hw1.out]; simp
       have B1 : Below w.heap.size w w1 := by rw [hw1.out]; exact ((Below.refl _ _).alloc (Nat.le_refl _) _).alloc (by simp) _
       have R1 : RowB w1 w.heap.size 74 (List.replicate 32 0) := by rw [hw1.out]; exact alloc_row (heap_alloc_new _ _)
       have O1 : RowB w1 (w.heap.size + 1) 74 (List.replicate 32 0) := by rw [hw1.out]; exact alloc_at (by simp)
       have e2 : w2.heap.size = w.heap.size + 3 := by rw [hw2.out]; simp [e1]
       have B2 : Below w.heap.size w w2 := by rw [hw2.out]; exact below_setRow (B1.alloc (by omega) _) (by omega) _
       have R2 : RowB w2 w.heap.size 74 (List.replicate 32 0) := by
         rw [hw2.out]; unfold RowB; rw [setRow_other _ _ _ _ (by omega)]; exact alloc_row R1
       have O2 : RowB w2 (w.heap.size + 1) 74 (List.replicate 32 0) := by
         rw [hw2.out]; unfold RowB; rw [setRow_other _ _ _ _ (by omega)]; exact alloc_row O1
       have E2 : HashRaw w2 w1.heap.size (hashOf t) buf (t.length % 64) t.length :=
         ⟨H0.out.lh, H0.out.lb, H0.out.sh, H0.out.sb, by rw [hw2.out]; exact setRow_heap _ _ _ _ _ _ (heap_alloc_new _ _)⟩
       have cc := E2.cc
       have P2 : HashP w2 w1.heap.size t t.length := ⟨⟨buf, E2, hbuf.out⟩, H.out.small⟩
       generalize w1.heap.size = E at *
       clear hw2 hw1 B1 R1 O1 E2
       replace e1 := Lib.hid e1
       replace e2 := Lib.hid e2
       replace B2 := Lib.hid B2
       replace R2 := Lib.hid R2
       replace O2 := Lib.hid O2
       replace P2 := Lib.hid P2
       clear w1))
  have pt := put64 w2 (8 * t.length)
  rw [Int.natCast_mul] at pt
  refine pt.mono ?_
  rintro e w3 ⟨rfl, D3, B3⟩
  clear pt cc
  have s3 := B3.size
  have S3 : SumSt w w3 E w2.heap.size t t.length (beBytes 8 (8 * t.length)) := by
    have h1 := e1.out
    have h2 := e2.out
    exact ⟨h1, by omega, P2.out.stay (S := fun _ => False) (Upd.of_below B3) id, R2.out.other (B3.block _ R2.out.lt), O2.out.other (B3.block _ O2.out.lt), D3, B2.out.trans (B3.mono (by omega))⟩
  generalize w2.heap.size = D at *
  have w1c := Lib.hid (write_one _ E t t.length w3.heap.size 128 (S3.alloc (.cells #[.int .u8 128] 5)).P (by decide) (cell_alloc_new' _ _ _) (Nat.ne_of_gt S3.lt) (by omega))
  replace S3 := Lib.hid S3
  clear P2 R2 O2 B2 B3 D3 e2 e1 s3
  go_wp2_with fail
  refine w1c.out.mono ?_
  rintro e w4 ⟨rfl, P4, U4⟩
  have S4 := (S3.out.alloc (.cells #[.int .u8 128] 5)).upd P4 U4
  replace S4 := Lib.hid S4
  clear P4 U4 w1c S3
  go_wp2_with fail
  go_loopw [] (fun wr => ∃ j : Nat, j ≤ 64 ∧ SumSt w wr E D (t ++ [128] ++ List.replicate j 0) (t.length + 1 + j) (beBytes 8 (8 * t.length)) ∧ j ≤ zeros t.length) (fun wr => (120 - waits wr E) % 64)
  case atStart => exact ⟨0, by omega, by simpa using S4.out, Nat.zero_le _⟩
  case round =>
    obtain ⟨j, hj, hS, hz⟩ := hrel
    have eL : (t ++ [128] ++ List.replicate j 0).length = t.length + 1 + j := by simp; omega
    have cn := hS.cn
    rw [eL] at cn
    by_cases h56 : (t.length + 1 + j) % 64 = 56
    · obtain rfl : j = zeros t.length := by unfold zeros at hz ⊢; omega
      rw [h56] at cn
      replace hS := Lib.hid hS
      replace eL := Lib.hid eL
      go_wp2_with fail
      refine (write_row wr E _ _ D 8 5 _ hS.out.P (beBytes_lt _ _) (by simp) hS.out.D (by have := hS.out.hE; have := hS.out.hD; omega) (by unfold zeros; omega)).mono ?_
      rintro e w6 ⟨rfl, P6, U6⟩
      have S6 := hS.out.upd P6 U6
      rw [show t ++ [128] ++ List.replicate (zeros t.length) 0 ++ beBytes 8 (8 * t.length) = filled t from rfl] at S6
      obtain ⟨buf6, H6, -⟩ := S6.P.raw
      have hr6 := H6.words
      have l8 := H6.lh
      replace S6 := Lib.hid S6
      replace H6 := Lib.hid H6
      replace hr6 := Lib.hid hr6
      clear P6 U6
      go_wp2_with (refine wpList_load_mid rfl 153 (.tmp 35) rfl E 1 rfl (u32s (hashOf (filled t))).toList _ hr6.out Tryd.underlying153 rfl (by simp only [u32s, List.length_map, l8]; kernel_rfl) ?_)
      have start : RowB w6 w.heap.size 74 (List.replicate 32 0) ∧ RowB w6 (w.heap.size + 1) 74 (digTo (hashOf (filled t)) 0) ∧ Below w.heap.size w w6 :=
        ⟨S6.out.R, by rw [digTo_zero]; exact S6.out.O, S6.out.B⟩
      have sm := small_hashOf (filled t)
      generalize hH : hashOf (filled t) = hh at *
      replace start := Lib.hid start
      replace sm := Lib.hid sm
      replace hH := Lib.hid hH
      clear S6 H6 hr6 S4 hS
      go_loopw [37] (fun i wr => ∃ k : Nat, k ≤ 8 ∧ i = .int .i64 k ∧ RowB wr w.heap.size 74 (List.replicate 32 0) ∧ RowB wr (w.heap.size + 1) 74 (digTo hh k) ∧ Below w.heap.size w wr) (fun i _ => 8 - (intOf i).toNat)
      case atStart => exact ⟨0, Nat.zero_le _, rfl, start.out⟩
      case round =>
        obtain ⟨k, hk, rfl, hR, hO, hB⟩ := hrel
        by_cases hlt : k < 8
        · have hget : (u32s hh)[k]? = some (.int .u32 (hh.getD k 0 : Nat)) := by simp [u32s, List.getD, show k < hh.length by omega]
          have hidx := fun x => run_index_row (P := Tryd.prog) x 153 34 8 (u32s hh) .i64 k (.int .u32 (hh.getD k 0 : Nat)) Tryd.underlying153 plain32 size32 hlt hget
          clear hget
          have pt := fun x => put32 x (hh.getD k 0) (sm.out.get k)
          replace pt := Lib.hid pt
          generalize hvv : hh.getD k 0 = v at *
          have hwr : IntKind.i64.wrap (4 * (k : Int)) = 4 * (k : Int) := IntWalk.i64_in _ (by omega)
          have hsl := run_sum (w.heap.size + 1) k hlt
          replace hR := Lib.hid hR
          replace hO := Lib.hid hO
          replace hB := Lib.hid hB
          go_wp2_with fail
          have hput := digTo_put l8 hlt
          have hlen := length_digTo l8 (k := k) (by omega)
          rw [hvv] at hput
          replace hput := Lib.hid hput
          replace hlen := Lib.hid hlen
          go_region_held3 (fun _ => True) (trivial) (first
            | (go_at_call 95; refine (pt.out _).mono ?_; rintro e w8 ⟨rfl, D8, B8⟩
               have O8 : RowB w8 (w.heap.size + 1) 74 (digTo hh k) := hO.out.other (B8.block _ hO.out.lt)
               have hB' := hB.out
               have ne8 : (wr.heap.size) ≠ w.heap.size + 1 := by have := hO.out.lt; omega
               have D8' : RowB w8 wr.heap.size 5 (beBytes 4 v) := D8
               replace O8 := Lib.hid O8
               replace D8' := Lib.hid D8')
            | (refine step_copy_row rfl (.tmp 43) (.tmp 45) 85 85 rfl 5 Tryd.underlying85 (by kernel_rfl) (w.heap.size + 1) (4 * k) (32 - 4 * k) (32 - 4 * k) ⟨wr.heap.size, 0, none⟩ 4 4 rfl rfl (u8s (digTo hh k)) 74 (by exact O8.out) (u8l (beBytes 4 v)) (by simp only [u8l, List.length_map, length_beBytes]; exact (Nat.min_eq_left (by omega)).symm) (by exact src_bytes (m := 4) (fun i hi => by rw [Nat.zero_add]; exact D8'.out.byt (by simpa using hi)) (by simp)) (by simp [u8s, u8l, hlen.out]; omega) (u8l_one _) (u8s (putBuf (digTo hh k) (4 * k) (beBytes 4 v))) (putBuf_row _ _ _) ?_
               intro w9 hw9))
          have S9 : RowB w9 w.heap.size 74 (List.replicate 32 0) ∧ RowB w9 (w.heap.size + 1) 74 (digTo hh (k + 1)) ∧ Below w.heap.size w w9 := by
            have hr8 : RowB w8 w.heap.size 74 (List.replicate 32 0) := hR.out.other (B8.block _ hR.out.lt)
            refine ⟨?_, ?_, ?_⟩
            · rw [hw9.out]; unfold RowB; rw [setRow_other _ _ _ _ (by omega)]; exact hr8
            · rw [hw9.out, ← hput.out]; exact setRow_heap _ _ _ _ _ _ O8.out
            · rw [hw9.out]; exact below_setRow (hB.out.drew.trans (B8.mono hB.out.size)) (by omega) _
          replace S9 := Lib.hid S9
          clear hw9 B8 D8 D8' O8
          go_wp2_with fail
          go_roundw
          case rel => exact ⟨k + 1, by omega, by go_num, S9.out⟩
          case measure => simp [intOf]; omega
        · obtain rfl : k = 8 := by omega
          simp only [show ((8 : Nat) : Int) = 8 from rfl]
          replace hR := Lib.hid hR
          have e8 : digTo hh 8 = sumOf t := by
            unfold digTo sumOf
            rw [hH.out, List.take_of_length_le (by omega)]; simp
          rw [e8] at hO
          have l32 : (u8s (sumOf t)).size = 32 := by rw [← e8]; simp [u8s, length_digTo l8 (Nat.le_refl 8)]
          have hi32 : (Tryd.prog.info? 74).map (·.size) = some (u8s (sumOf t)).size := by
            have e : (Tryd.prog.info? 74).map (·.size) = some 32 := by kernel_rfl
            rw [l32]; exact e
          have one32 : (u8s (sumOf t)).all (·.oneCell') = true := by simp [u8s, Value.oneCell']
          replace hO := Lib.hid hO
          replace hB := Lib.hid hB
          go_wp2_with (first
            | (refine wpList_load_row rfl 74 (.tmp 4) rfl (w.heap.size + 1) rfl 74 (u8s (sumOf t)) (0, 0) _ hO.out Tryd.underlying74 rfl hi32 ?_)
            | (refine wpList_store_row rfl 74 (.tmp 2) (.tmp 48) rfl w.heap.size (u8s (sumOf t)) rfl rfl 74 (u8s (List.replicate 32 0)) hR.out hi32 (by rw [l32]; rfl) one32 ?_))
          refine ret_row2 rfl rfl w.heap.size 74 (u8s (sumOf t)) (0, 0) _ rfl (setRow_heap _ _ _ _ _ _ hR.out) Tryd.underlying74 rfl hi32 ⟨rfl, below_setRow hB.out (Nat.le_refl _) _⟩
    · have hz' : j + 1 ≤ zeros t.length := by unfold zeros at hz ⊢; omega
      have hn : ((((t.length + 1 + j) % 64 : Nat) : Int) == 56) = false := by simp; omega
      have w1c := Lib.hid (write_one _ E _ _ wr.heap.size 0 (hS.alloc (.cells #[.int .u8 0] 5)).P (by decide) (cell_alloc_new' _ _ _) (Nat.ne_of_gt hS.lt) (by unfold zeros at hz; omega))
      have wt := hS.waits
      rw [eL] at wt
      have hne : ¬ (t.length + 1 + j) % 64 = 56 := h56
      generalize hm : (t.length + 1 + j) % 64 = m at *
      replace hS := Lib.hid hS
      replace eL := Lib.hid eL
      replace hz := Lib.hid hz
      replace hz' := Lib.hid hz'
      replace wt := Lib.hid wt
      replace hne := Lib.hid hne
      replace hm := Lib.hid hm
      go_wp2_with fail
      refine w1c.out.mono ?_
      rintro e w5 ⟨rfl, P5, U5⟩
      have S5 := (hS.out.alloc (.cells #[.int .u8 0] 5)).upd P5 U5
      have e5 : t ++ [128] ++ List.replicate j 0 ++ [0] = t ++ [128] ++ List.replicate (j + 1) 0 := by
        rw [List.append_assoc _ _ [0]]; congr 1; rw [List.replicate_succ']
      rw [e5] at S5
      have wt5 := S5.waits
      replace S5 := Lib.hid S5
      replace wt5 := Lib.hid wt5
      clear P5 U5 w1c e5
      go_wp2_with fail
      go_roundw
      case rel => exact ⟨j + 1, by have := hz'.out; unfold zeros at this; omega, by rw [← Nat.add_assoc]; exact S5.out, hz'.out⟩
      case measure =>
        have h1 := wt.out
        have h2 := wt5.out
        have h3 := hm.out
        have h4 := hne.out
        simp only [List.length_append, List.length_cons, List.length_nil, List.length_replicate] at h2
        omega
theorem length_sumOf (t : List Nat) : (sumOf t).length = 32 := by have := size_sumOf t; simpa [u8s] using this
theorem sumOf_lt (t : List Nat) : ∀ x ∈ sumOf t, x < 256 := by
  intro x hx
  unfold sumOf at hx
  obtain ⟨y, _, hy⟩ := List.mem_flatMap.1 hx
  exact beBytes_lt _ _ x hy

end Go.Proofs.YtjhfoddhpmmjoaaDoor
namespace Go.Proofs.YtjhfoddhpmmjoaaDoor
set_option maxRecDepth 100000
open Go.RowKit

theorem cell_alloc_at {w : World} {b : Nat} {v : Value} {t : TypeId} (h : b = w.heap.size) : (w.alloc (.cells #[v] t)).cell? ⟨b, 0, none⟩ = some v := by
  rw [h]; exact cell_alloc_new' _ _ _
set_option maxRecDepth 100000 in
theorem both_any (w : World) (ao : Option Addr) (cap : Nat) (ls : List (List Nat)) (h : TextsAt w ao ls) (hlen : ls.flatten.length < 1000000000) (hls : ls.length < 1000000000) :
    Calls Tryd.prog 84 #[.slice ao ls.length cap] w fun e w' => e = .returned (.agg (u8s (sumOf ls.flatten))) ∧ Below w.heap.size w w' := by
  obtain ⟨n, hn⟩ : ∃ n, n = ls.length := ⟨_, rfl⟩
  rw [← hn]
  rw [← hn] at hls
  replace h := Lib.hid h
  replace hn := Lib.hid hn
  go_enter Tryd.func84, Tryd.ntmps84
  go_wp2_with fail
  refine (snew_any _).mono ?_
  rintro e w1 ⟨b, hb, rfl, hP, hB⟩
  have hb' : w.heap.size + 1 ≤ b := by simpa using hb
  have start : HashP w1 b (joinTo ls 0) (joinTo ls 0).length ∧ RowB w1 w.heap.size 74 (List.replicate 32 0) ∧ Below w.heap.size w w1 :=
    ⟨hP, RowB.other (show RowB (w.alloc (.cells (u8s (List.replicate 32 0)) 74)) w.heap.size 74 (List.replicate 32 0) from heap_alloc_new _ _) (hB.block _ (by simp)), ((Below.refl _ _).alloc (Nat.le_refl _) _).trans (hB.mono (by simp))⟩
  replace start := Lib.hid start
  replace hb' := Lib.hid hb'
  clear hP hB hb
  go_wp2_with fail
  go_loopw [11] (fun i wr => ∃ k : Nat, k ≤ n ∧ i = .int .i64 k ∧ HashP wr b (joinTo ls k) (joinTo ls k).length ∧ RowB wr w.heap.size 74 (List.replicate 32 0) ∧ Below w.heap.size w wr) (fun i _ => n - (intOf i).toNat)
  case atStart => exact ⟨0, Nat.zero_le _, rfl, start.out⟩
  case round =>
    obtain ⟨k, hk, rfl, hP, hR, hB⟩ := hrel
    by_cases hlt : k < n
    · have hk' : k < ls.length := by rw [← hn.out]; exact hlt
      obtain ⟨ob, oo, rfl, ai, ci, hc, hci, hby, _⟩ := h.out k hk'
      have c1 := (hB.cell (block_lt_of_cell hc)).trans hc
      have hle := joinTo_le ls (k + 1)
      have hsucc := joinTo_succ ls hk'
      have wr1 := Lib.hid (write_any wr b (joinTo ls k) _ ai _ ci _ hP hci (by rw [hsucc, List.length_append] at hle; omega) (hby.below hB) (hby.out (by have := hb'.out; omega)))
      clear hc
      generalize ls.getD k [] = d at *
      replace hP := Lib.hid hP
      replace hR := Lib.hid hR
      replace hB := Lib.hid hB
      replace hby := Lib.hid hby
      replace hsucc := Lib.hid hsucc
      go_wp2_with fail
      refine wr1.out.mono ?_
      rintro e w2 ⟨rfl, P2, U2⟩
      rw [bytesOf_byt, ← hsucc.out] at P2
      have S2 : HashP w2 b (joinTo ls (k + 1)) (joinTo ls (k + 1)).length ∧ RowB w2 w.heap.size 74 (List.replicate 32 0) ∧ Below w.heap.size w w2 := by
        refine ⟨?_, hR.out.other (U2.block _ hR.out.lt (by have := hb'.out; omega)), hB.out.trans (U2.below (fun i hi e => by have := hb'.out; omega) hB.out.size)⟩
        have e : (joinTo ls k).length + d.length = (joinTo ls (k + 1)).length := by rw [hsucc.out, List.length_append]
        rw [← e]; exact P2
      replace S2 := Lib.hid S2
      clear P2 U2 wr1
      go_wp2_with fail
      go_roundw
      case rel => exact ⟨k + 1, by omega, by go_num, S2.out⟩
      case measure => simp [intOf]; omega
    · obtain rfl : k = n := by omega
      have ej : joinTo ls k = ls.flatten := by rw [hn.out]; exact joinTo_full ls
      rw [ej] at hP
      have sm := Lib.hid (sum_any wr b _ hP hlen)
      generalize hT : ls.flatten = T at *
      have l32 : (u8s (sumOf T)).size = 32 := size_sumOf T
      have hi32 : (Tryd.prog.info? 74).map (·.size) = some (u8s (sumOf T)).size := by
        have e : (Tryd.prog.info? 74).map (·.size) = some 32 := by kernel_rfl
        rw [l32]; exact e
      have one32 : (u8s (sumOf T)).all (·.oneCell') = true := by simp [u8s, Value.oneCell']
      replace hP := Lib.hid hP
      replace hR := Lib.hid hR
      replace hB := Lib.hid hB
      replace ej := Lib.hid ej
      replace hT := Lib.hid hT
      go_wp2_with fail
      refine sm.out.mono ?_
      rintro e w2 ⟨rfl, B2⟩
      have R2 : RowB w2 w.heap.size 74 (List.replicate 32 0) := hR.out.other (B2.block _ hR.out.lt)
      have C2 : Below w.heap.size w w2 := hB.out.trans (B2.mono hB.out.size)
      have hlt2 := R2.lt
      replace R2 := Lib.hid R2
      replace C2 := Lib.hid C2
      clear B2 sm
      go_wp2_with (first
        | (refine wpList_store_row rfl 74 (.tmp 6) (.tmp 22) rfl w2.heap.size (u8s (sumOf T)) rfl rfl 74 (u8s (List.replicate 32 0)) (heap_alloc_new _ _) hi32 (by rw [l32]; rfl) one32 ?_
           refine name_world ?_; intro w4 hw4
           have L4 : RowB w4 w2.heap.size 74 (sumOf T) := by rw [hw4.out]; exact setRow_heap _ _ _ _ _ _ (heap_alloc_new _ _)
           have R4 : RowB w4 w.heap.size 74 (List.replicate 32 0) := by
             rw [hw4.out]; unfold RowB; rw [setRow_other _ _ _ _ (by omega)]; exact alloc_row R2.out
           have C4 : Below w.heap.size w w4 := by rw [hw4.out]; exact below_setRow (C2.out.alloc (by omega) _) (by omega) _
           clear hw4
           replace L4 := Lib.hid L4
           replace R4 := Lib.hid R4
           replace C4 := Lib.hid C4)
        | (refine wpList_load_row rfl 74 (.tmp 6) rfl w2.heap.size rfl 74 (u8s (sumOf T)) (0, 0) _ L4.out Tryd.underlying74 rfl hi32 ?_)
        | (refine wpList_store_row rfl 74 (.tmp 2) (.tmp 24) rfl w.heap.size (u8s (sumOf T)) rfl rfl 74 (u8s (List.replicate 32 0)) R4.out hi32 (by rw [l32]; rfl) one32 ?_))
      refine ret_row rfl rfl w.heap.size 74 (u8s (sumOf T)) (0, 0) _ rfl (setRow_heap _ _ _ _ _ _ R4.out) Tryd.underlying74 rfl hi32 ⟨by rw [hT.out], below_setRow C4.out (Nat.le_refl _) _⟩

set_option maxRecDepth 100000 in
theorem sumf_any (w : World) (ao : Option Addr) (cap : Nat) (t : List Nat) (hc : t.length ≤ cap) (h : BytesAt w ao t.length (byt t)) (hno : ao = none → cap = 0) (hlen : t.length < 1000000000) :
    Calls Tryd.prog 80 #[.slice ao t.length cap] w fun e w' => e = .returned (.agg (u8s (sumOf t))) ∧ Below w.heap.size w w' := by
  have l32 : (u8s (sumOf t)).size = 32 := size_sumOf t
  have hi32 : (Tryd.prog.info? 74).map (·.size) = some (u8s (sumOf t)).size := by
    have e : (Tryd.prog.info? 74).map (·.size) = some 32 := by kernel_rfl
    rw [l32]; exact e
  have one32 : (u8s (sumOf t)).all (·.oneCell') = true := by simp [u8s, Value.oneCell']
  have bo : ∀ wx : World, wx.cell? ⟨w.heap.size + 1, 0, none⟩ = some (.slice ao t.length cap) → Below w.heap.size w wx →
      Calls Tryd.prog 84 #[.slice (some ⟨w.heap.size + 1, 0, none⟩) 1 1] wx fun e w' => e = .returned (.agg (u8s (sumOf t))) ∧ Below wx.heap.size wx w' := fun wx hx hB => by
    have h1 := both_any wx (some ⟨w.heap.size + 1, 0, none⟩) 1 [t] (fun i hi => by
      obtain rfl : i = 0 := by simpa using hi
      exact ⟨w.heap.size + 1, 0, rfl, ao, cap, hx, hc, h.below hB, hno⟩) (by simpa using hlen) (by simp)
    simpa using h1
  generalize t.length = n at *
  replace bo := Lib.hid bo
  replace h := Lib.hid h
  go_enter Tryd.func80, Tryd.ntmps80
  go_wp2_with fail
  refine (bo.out _ (cell_alloc_at (by simp)) (((Below.refl _ _).alloc (Nat.le_refl _) _).alloc (by simp) _)).mono ?_
  rintro e w2 ⟨rfl, B2⟩
  have R2 : RowB w2 w.heap.size 74 (List.replicate 32 0) := by
    refine RowB.other (show RowB ((w.alloc (.cells (u8s (List.replicate 32 0)) 74)).alloc (.cells #[.slice ao n cap] 85)) w.heap.size 74 (List.replicate 32 0) from alloc_row (heap_alloc_new _ _)) (B2.block _ (by simp; omega))
  have C2 : Below w.heap.size w w2 := (((Below.refl _ _).alloc (Nat.le_refl _) _).alloc (by simp) _).trans (B2.mono (by simp; omega))
  replace R2 := Lib.hid R2
  replace C2 := Lib.hid C2
  clear B2 bo
  go_wp2_with (refine wpList_store_row rfl 74 (.tmp 2) (.tmp 5) rfl w.heap.size (u8s (sumOf t)) rfl rfl 74 (u8s (List.replicate 32 0)) R2.out hi32 (by rw [l32]; rfl) one32 ?_)
  refine ret_row rfl rfl w.heap.size 74 (u8s (sumOf t)) (0, 0) _ rfl (setRow_heap _ _ _ _ _ _ R2.out) Tryd.underlying74 rfl hi32 ⟨rfl, below_setRow C2.out (Nat.le_refl _) _⟩

/-- A hash that was never made. -/
def HashNot (w : World) (v : Value) : Prop := v = .pointer none ∨ ∃ b, v = .pointer (some ⟨b, 0, none⟩) ∧ w.cell? ⟨b, 0, none⟩ = some (.bool false)
set_option maxRecDepth 100000 in
theorem write_not (w : World) (v s : Value) (h : HashNot w v) : Calls Tryd.prog 89 #[v, s] w fun e w' => e = .returned (.int .i64 6) ∧ w = w' := by
  rcases h with rfl | ⟨b, rfl, c0⟩
  · go_enter Tryd.func89, Tryd.ntmps89
    go_wp2
    go_ret
    exact ⟨rfl, rfl⟩
  · go_enter Tryd.func89, Tryd.ntmps89
    go_wp2
    go_ret
    exact ⟨rfl, rfl⟩
set_option maxRecDepth 100000 in
theorem sum_not (w : World) (v : Value) (h : HashNot w v) : Calls Tryd.prog 90 #[v] w fun e w' => e = .returned (.tuple #[.agg (u8s (List.replicate 32 0)), .int .i64 6]) ∧ Below w.heap.size w w' := by
  have hi32 : (Tryd.prog.info? 74).map (·.size) = some (u8s (List.replicate 32 0)).size := by kernel_rfl
  rcases h with rfl | ⟨b, rfl, c0⟩
  · go_enter Tryd.func90, Tryd.ntmps90
    go_wp2_with (first
      | (refine wpList_load_row rfl 74 (.tmp 4) rfl (w.heap.size + 1) rfl 74 (u8s (List.replicate 32 0)) (0, 0) _ (alloc_at (by simp)) Tryd.underlying74 rfl hi32 ?_)
      | (refine wpList_store_row rfl 74 (.tmp 2) (.tmp 18) rfl w.heap.size (u8s (List.replicate 32 0)) rfl rfl 74 (u8s (List.replicate 32 0)) (alloc_row (heap_alloc_new _ _)) hi32 rfl (by kernel_rfl) ?_; refine name_world ?_; intro w1 hw1))
    refine ret_row2 rfl rfl w.heap.size 74 (u8s (List.replicate 32 0)) (0, 0) _ rfl (by rw [hw1.out]; exact setRow_heap _ _ _ _ _ _ (alloc_row (heap_alloc_new _ _))) Tryd.underlying74 rfl hi32 ⟨rfl, ?_⟩
    rw [hw1.out]
    exact below_setRow (((Below.refl _ _).alloc (Nat.le_refl _) _).alloc (by simp) _) (Nat.le_refl _) _
  · have hblt : b < w.heap.size := block_lt_of_cell c0
    go_enter Tryd.func90, Tryd.ntmps90
    go_wp2_with (first
      | (refine wpList_load_row rfl 74 (.tmp 4) rfl (w.heap.size + 1) rfl 74 (u8s (List.replicate 32 0)) (0, 0) _ (alloc_at (by simp)) Tryd.underlying74 rfl hi32 ?_)
      | (refine wpList_store_row rfl 74 (.tmp 2) (.tmp 18) rfl w.heap.size (u8s (List.replicate 32 0)) rfl rfl 74 (u8s (List.replicate 32 0)) (alloc_row (heap_alloc_new _ _)) hi32 rfl (by kernel_rfl) ?_; refine name_world ?_; intro w1 hw1))
    refine ret_row2 rfl rfl w.heap.size 74 (u8s (List.replicate 32 0)) (0, 0) _ rfl (by rw [hw1.out]; exact setRow_heap _ _ _ _ _ _ (alloc_row (heap_alloc_new _ _))) Tryd.underlying74 rfl hi32 ⟨rfl, ?_⟩
    rw [hw1.out]
    exact below_setRow (((Below.refl _ _).alloc (Nat.le_refl _) _).alloc (by simp) _) (Nat.le_refl _) _

end Go.Proofs.YtjhfoddhpmmjoaaDoor
