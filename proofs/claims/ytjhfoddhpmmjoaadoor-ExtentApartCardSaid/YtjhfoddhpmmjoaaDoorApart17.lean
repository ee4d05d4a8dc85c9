/-
  ExtentApart: the walk. The table of math/bits stands in the world: the one condition.
-/
import Derived.Test.YtjhfoddhpmmjoaaDoorApartCalls17
import Derived.Deep.CutRange
import Derived.Laws.BitsAllLaws
namespace Go.Proofs.YtjhfoddhpmmjoaaDoor
set_option maxRecDepth 100000
open Go.RowKit

/-- Booleans lie in a slice. -/
def BoolsIn (w : World) (ao : Option Addr) (len : Nat) (G : Nat → Bool) : Prop :=
  ∀ i, i < len → ∃ ob oo, ao = some ⟨ob, oo, none⟩ ∧ w.cell? ⟨ob, oo + i, none⟩ = some (.bool (G i))
theorem BoolsIn.below {w w' : World} {ao : Option Addr} {len : Nat} {G : Nat → Bool} (h : BoolsIn w ao len G) (hB : Below w.heap.size w w') : BoolsIn w' ao len G := fun i hi => by
  obtain ⟨ob, oo, e, hc⟩ := h i hi
  exact ⟨ob, oo, e, (hB.cell (block_lt_of_cell hc)).trans hc⟩
theorem OpsIn.cell0 {w : World} {ob oo len : Nat} {F : Nat → Op17} (h : OpsIn w (some ⟨ob, oo, none⟩) len F) {i : Nat} (hi : i < len) : w.cell? ⟨ob, oo + i * 5, none⟩ = some (.int .i64 (F i).k) := (h.range hi) 0 _ rfl
theorem OpsIn.cell4 {w : World} {ob oo len : Nat} {F : Nat → Op17} (h : OpsIn w (some ⟨ob, oo, none⟩) len F) {i : Nat} (hi : i < len) : w.cell? ⟨ob, oo + i * 5 + 4, none⟩ = some (.int .u32 ((F i).e : Int)) := (h.range hi) 4 _ rfl
/-- An op stored into a block just made. -/
theorem wpList_store_op {w : World} {zs : Array Value} {ops : Array Oper} {rest : List Oper} {o : Oper} {a : Act} {Q : Exit → Act → World → Prop} (hgd : o.guard = none) (x y : Operand) (ho : o.op = .store 36 x y)
    (p : Op17) (hx : a.eval x = .pointer (some ⟨w.heap.size, 0, none⟩)) (hy : a.eval y = .agg p.cells.toArray)
    (hold : zs.size = 5) (h : ∀ w', Hid (w'.heap[w.heap.size]? = some (.cells p.cells.toArray 36 (0, 0))) → Hid (Below w.heap.size w w') → wpList Tryd.prog ops Q rest (a.put o.dst undef) w') : wpList Tryd.prog ops Q (o :: rest) a (w.alloc (.cells zs 36)) := by
  refine wpList_store_row hgd 36 x y ho w.heap.size p.cells.toArray hx hy 36 zs (heap_alloc_new _ _) (infoOp17 p) hold (by simp [Op17.cells, Value.oneCell']) ?_
  exact h _ (setRow_heap _ _ _ _ _ _ (heap_alloc_new _ _)) (((Below.refl _ _).alloc (Nat.le_refl _) _).trans ((Upd.setRow (S := fun i => i = w.heap.size) (Upd.refl _ _) w.heap.size _ (fun _ => rfl)).below (fun k hk e => by omega) (by simp)))
theorem built31 : Tryd.prog.built 36 [(0, .int .i64 3), (1, .int .i64 1)] = some #[.int .i64 3, .int .i64 1, .int .i64 0, .int .i64 0, .int .u32 0] := by kernel_rfl
theorem wpList_build2 {P : Program} {ops : Array Oper} {rest : List Oper} {o : Oper} {a : Act} {w : World} {Q : Exit → Act → World → Prop} (hg : o.guard = none) (t : TypeId) (i j : Nat) (v u : Value) (ho : o.op = .build t #[(i, .const v), (j, .const u)])
    (cells : Array Value) (hb : P.built t [(i, v), (j, u)] = some cells) (h : wpList P ops Q rest (a.put o.dst (.agg cells)) w) : wpList P ops Q (o :: rest) a w := by
  have e : (#[(i, Operand.const v), (j, Operand.const u)].map fun ((i : Nat), x) => (i, a.eval x)).toList = [(i, v), (j, u)] := by simp [Act.eval]
  exact wpList_build hg t _ ho (by rw [e, hb]; rfl) (by rw [e, hb]; exact h)
theorem infoU32a : (Tryd.prog.info? 34).map (fun i => (i.zero, i.size, i.bytes)) = some (some (.int .u32 0), 1, 4) := by kernel_rfl
def cut1 (ao : Option Addr) (l h m : Nat) : Value := sliced ao l h m 1
theorem elem17 : Tryd.prog.elem 33 = 34 := by simp [Program.elem, Tryd.underlying33]
theorem size17 (x : World) : (sizeOf 34).run Tryd.prog x = .ok 1 x := by
  have hs := infoU32a
  cases hq : Tryd.prog.info? 34 with
  | none => simp [hq] at hs
  | some i => simp [hq] at hs; simp [sizeOf, typeInfo, hq, hs.2.1]
theorem cut_hm17 (ao : Option Addr) (len cap k : Nat) (h : k ≤ cap) : ∀ x, (Instr.slice 33 (.slice ao len cap) none (some (.int .i64 (k : Int))) (some (.int .i64 (k : Int)))).run Tryd.prog x = .ok (cut1 ao 0 k k) x := fun x => by
  rw [run_slice_hm (P := Tryd.prog) x 33 ao len cap (by rw [elem17]; exact Tryd.underlying33) .i64 .i64 k k (by omega) (by omega) (by omega), elem17, size17]
  simp only [Result.andThen, Int.toNat_natCast]
  rfl
theorem cut_l17 (ao : Option Addr) (len cap k : Nat) (h : k + 1 ≤ len) : ∀ x, (Instr.slice 33 (.slice ao len cap) (some (.int .i64 ((k : Int) + 1))) none none).run Tryd.prog x = .ok (cut1 ao (k + 1) len cap) x := fun x => by
  rw [run_slice_l (P := Tryd.prog) x 33 ao len cap (by rw [elem17]; exact Tryd.underlying33) .i64 ((k : Int) + 1) (by omega) (by omega), elem17, size17]
  have e : ((k : Int) + 1).toNat = k + 1 := by omega
  simp only [Result.andThen, e]
  rfl
section
variable {w0 w w' : World} {z B0 r m : Nat} {l1 l2 : Lie} {A C X Y : List Nat} {v1 v2 : Value}
theorem Run.at {w : World} {base : Nat} {e : TypeId} {n c g : Nat} {xs : List Value} (h : Run w base e (.slice (some ⟨g, 0, none⟩) n c) xs) {k : Nat} {x : Value} (hk : xs[k]? = some x) : w.cell? ⟨g, k, none⟩ = some x := by
  obtain ⟨ao, cap, e, _, _, _, hc⟩ := h.form
  obtain ⟨g', e1, e2⟩ := hc k x hk
  rw [e1] at e
  injection e with e3
  cases e3
  exact e2
/-- What the calls of Drop read. -/
theorem Pair.four {g1 g2 n1 c1 n2 c2 k : Nat} (h : Pair w0 w z B0 l1 l2 r m A C (.slice (some ⟨g1, 0, none⟩) n1 c1) (.slice (some ⟨g2, 0, none⟩) n2 c2) X Y) (hx : k < X.length) (hy : k < Y.length) {xa xb : Nat} (ha : xa = X.getD k 0) (hb : xb = Y.getD k 0) :
    w.cell? ⟨l1.ob, 0, none⟩ = some (.pointer (some ⟨l1.b, 0, none⟩)) ∧ w.cell? ⟨l2.ob, 0, none⟩ = some (.pointer (some ⟨l2.b, 0, none⟩)) ∧ w.cell? ⟨g1, k, none⟩ = some (.int .u32 (xa : Int)) ∧ w.cell? ⟨g2, k, none⟩ = some (.int .u32 (xb : Int)) := by
  subst ha hb
  exact ⟨h.cells.1, h.cells.2, h.run1.at (u32x_get hx), h.run2.at (u32x_get hy)⟩
theorem Pair.form1 (h : Pair w0 w z B0 l1 l2 r m A C v1 v2 X Y) : ∃ ao cap, v1 = .slice ao X.length cap ∧ X.length ≤ cap ∧ (0 < X.length → ∃ g, ao = some ⟨g, 0, none⟩) := by
  obtain ⟨ao, cap, e1, e2, _, _, e5⟩ := h.run1.form
  rw [u32x_length] at e1 e2
  exact ⟨ao, cap, e1, e2, fun h0 => by obtain ⟨g, e6, _⟩ := e5 0 _ (u32x_get h0); exact ⟨g, e6⟩⟩
theorem Pair.form2 (h : Pair w0 w z B0 l1 l2 r m A C v1 v2 X Y) : ∃ ao cap, v2 = .slice ao Y.length cap ∧ Y.length ≤ cap ∧ (0 < Y.length → ∃ g, ao = some ⟨g, 0, none⟩) := by
  obtain ⟨ao, cap, e1, e2, _, _, e5⟩ := h.run2.form
  rw [u32x_length] at e1 e2
  exact ⟨ao, cap, e1, e2, fun h0 => by obtain ⟨g, e6, _⟩ := e5 0 _ (u32x_get h0); exact ⟨g, e6⟩⟩
theorem Run.push (B0 : Nat) (v : Value) (X : List Nat) (x g : Nat) (w : World) (hr : Run w B0 34 v (u32x X)) (hB : B0 ≤ w.heap.size) (hl : X.length ≤ 100) (hg : w.cell? ⟨g, 0, none⟩ = some (.int .u32 (x : Int))) (ty : TypeId) :
    ∃ v' w', (Builtin.append_ #[33, 33] ty #[v, .slice (some ⟨g, 0, none⟩) 1 1]).run Tryd.prog w = .ok v' w' ∧ RunTo w B0 34 v (u32x (X ++ [x])) v' w' := by
  rw [u32x_append]
  exact run_append_one 33 ty 34 Tryd.underlying33 (.int .u32 0) 4 infoU32a rfl (by decide) B0 v (u32x X) hr hB ⟨g, 0, none⟩ 1 _ hg rfl (by rw [u32x_length]; omega)
theorem Run.strike (B0 : Nat) (ao : Option Addr) (n cap : Nat) (X : List Nat) (k : Nat) (w : World) (hr : Run w B0 34 (.slice ao n cap) (u32x X)) (hn : n = X.length) (hB : B0 ≤ w.heap.size) (hk : k < X.length) (hl : X.length ≤ 100) (ty : TypeId) :
    ∃ v' w', (Builtin.append_ #[33, 33] ty #[cut1 ao 0 k k, cut1 ao (k + 1) n cap]).run Tryd.prog w = .ok v' w' ∧ RunTo w B0 34 (.slice ao n cap) (u32x (X.eraseIdx k)) v' w' := by
  subst hn
  have := run_append_less 33 ty 34 Tryd.underlying33 (.int .u32 0) 4 infoU32a rfl (by decide) B0 ao cap (u32x X) (by rw [u32x_length]; exact hr) hB k (by rw [u32x_length]; exact hk) (by rw [u32x_length]; omega)
  rw [u32x_length, ← u32x_eraseIdx] at this
  exact this
end

set_option maxHeartbeats 4000000 in
set_option maxRecDepth 100000 in
theorem apart17_any (w : World) (hT : TabAt w) (x0 : Nat) (hx0 : x0 < 256) (ao : Option Addr) (len cap : Nat) (F : Nat → Op17) (hO : OpsIn w ao len F) (bo : Option Addr) (blen bcap : Nat) (G : Nat → Op17) (hG : OpsIn w bo blen G)
    (co : Option Addr) (clen ccap : Nat) (H : Nat → Bool) (hH : BoolsIn w co clen H) :
    Calls Tryd.prog 3 #[.int .u8 (x0 : Int), .slice ao len cap, .slice bo blen bcap, .slice co clen ccap] w fun e w' => e = .returned (.bool true) ∧ Below w.heap.size w w' := by
  have cb := Lib.hid (begin_lie w)
  have e15 : bits .and .u8 (x0 : Int) 15 = ((x0 &&& 15 : Nat) : Int) := u8_and_nat x0 15 hx0 (by decide)
  have l15 : x0 &&& 15 ≤ 15 := Nat.and_le_right
  generalize x0 &&& 15 = N at *
  have wN : IntKind.i64.wrap (N : Int) = (N : Int) := IntWalk.i64_in _ (by omega)
  replace hT := Lib.hid hT
  replace hO := Lib.hid hO
  replace hG := Lib.hid hG
  replace hH := Lib.hid hH
  go_enter Tryd.func3, Tryd.ntmps3
  go_wp2_with fail
  refine cb.out.mono ?_
  rintro e w1 ⟨l1, g1, rfl, o1, B1⟩
  have cb2 := Lib.hid (begin_lie w1)
  clear cb
  replace g1 := Lib.hid g1
  replace o1 := Lib.hid o1
  replace B1 := Lib.hid B1
  go_wp2_with fail
  refine cb2.out.mono ?_
  rintro e w2 ⟨l2, g2, rfl, o2, B2⟩
  have o1' := o1.out.below B2
  have c1 := o1'.o0
  have ca := admit_lie o1' rfl rfl N (by omega)
  clear cb2 o1
  replace g2 := Lib.hid g2
  replace o2 := Lib.hid o2
  replace B2 := Lib.hid B2
  replace ca := Lib.hid ca
  replace o1' := Lib.hid o1'
  go_wp2_with fail
  refine ca.out.mono ?_
  rintro e w3 ⟨rfl, f1, U3⟩
  have dj : ∀ k, l2.six k → ¬ l1.six k := fun k h2 h1 => by have := g1.out k h1; have := g2.out k h2; omega
  have o2' := o2.out.stay U3 dj
  have c2 := o2'.o0
  have ca2 := admit_lie o2' rfl rfl N (by omega)
  clear ca c1 o1' o2 dj
  replace f1 := Lib.hid f1
  replace U3 := Lib.hid U3
  replace ca2 := Lib.hid ca2
  replace o2' := Lib.hid o2'
  go_wp2_with fail
  refine ca2.out.mono ?_
  rintro e w4 ⟨rfl, f2, U4⟩
  have st4 : Pair w w4 w1.heap.size w4.heap.size l1 l2 N (3 * 0) [] [] (.slice none 0 0) (.slice none 0 0) [] [] := Pair.start hT.out f1.out f2 g1.out g2.out B1.out B2.out U3.out U4
  generalize w1.heap.size = z at *
  generalize w4.heap.size = B0 at *
  clear ca2 c2 o2' f1 f2 g1 g2 B1 B2 U3 U4
  replace st4 := Lib.hid st4
  go_wp2_with fail
  go_loopw [17, 16, 14, 15] (fun iv av mv hv wr => ∃ (i a : Nat) (A C : List Nat), i ≤ 80 ∧ i ≤ len ∧ iv = .int .i64 (i : Int) ∧ av = .int .i64 (a : Int) ∧ a ≤ i ∧ A.length = C.length ∧ Hid (Pair w wr z B0 l1 l2 N (3 * i) A C mv hv A C)) (fun iv _ _ _ _ => 80 - (intOf iv).toNat)
  case atStart => exact ⟨0, 0, [], [], by decide, Nat.zero_le _, rfl, rfl, Nat.le_refl _, rfl, st4⟩
  case round =>
    clear st4
    obtain ⟨i, a, A, C, hi, hil, rfl, rfl, hai, hAC, st⟩ := hrel
    replace hAC := Lib.hid hAC
    by_cases hlt : i < len ∧ i < 80
    · have d1 : decide ((i : Int) < (len : Int)) = true := decide_eq_true (by omega)
      have d2 : decide ((i : Int) < 80) = true := decide_eq_true (by omega)
      go_upto_region 11 with (fail)
      go_cut [86] from 61 to 192 (fun bv wx => ∃ bt : Bool, bv = .bool bt ∧ (bt = true → a < blen) ∧ Hid (wx = wr))
      case first =>
        have hH2 := hH.out.below st.out.low
        have hcl : (decide ((i : Int) < (clen : Int)) = false ∧ ¬ i < clen) ∨ (decide ((i : Int) < (clen : Int)) = true ∧ i < clen) := by
          by_cases h : i < clen
          · exact .inr ⟨decide_eq_true (by omega), h⟩
          · exact .inl ⟨decide_eq_false (by omega), h⟩
        have hbl : (decide ((a : Int) < (blen : Int)) = false ∧ ¬ a < blen) ∨ (decide ((a : Int) < (blen : Int)) = true ∧ a < blen) := by
          by_cases h : a < blen
          · exact .inr ⟨decide_eq_true (by omega), h⟩
          · exact .inl ⟨decide_eq_false (by omega), h⟩
        replace hH2 := Lib.hid hH2
        rcases hcl with ⟨d3, d3n⟩ | ⟨d3, d3n⟩
        · go_wp2_with fail
          go_meet
          case rel => exact ⟨false, rfl, by simp, rfl⟩
        · obtain ⟨cb, cf, rfl, hc⟩ := hH2.out i d3n
          have d4 : 0 ≤ (i : Int) ∧ (i : Int) < (clen : Int) := by omega
          generalize H i = hb at *
          cases hb with
          | false =>
            go_wp2_with fail
            go_meet
            case rel => exact ⟨false, rfl, by simp, rfl⟩
          | true =>
            rcases hbl with ⟨d5, d5n⟩ | ⟨d5, d5n⟩
            · go_wp2_with fail
              go_meet
              case rel => exact ⟨false, rfl, by simp, rfl⟩
            · go_wp2_with fail
              go_meet
              case rel => exact ⟨true, rfl, fun _ => d5n, rfl⟩
      case rest =>
        obtain ⟨bt, rfl, hbt, hwc⟩ := hcut
        obtain rfl := hwc.out
        clear hwc
        go_upto_if 86 with (fail)
        go_cut [16] from 61 to 192 (fun av wx => ∃ a' : Nat, av = .int .i64 (a' : Int) ∧ a' ≤ i + 1 ∧ Hid (Pair w wx z B0 l1 l2 N (3 * i + 1) A C u14 u15 A C))
        case first =>
          cases bt with
          | false =>
            go_wp2_with fail
            go_meet
            case rel => exact ⟨a, rfl, by omega, st.out.mono (by omega)⟩
          | true =>
            have ha := hbt rfl
            have hG2 := hG.out.below st.out.low
            obtain ⟨pb, po, rfl⟩ := hG2.addr ha
            have rg := hG2.range ha
            have he := (hG2 a ha).1
            have d3 : 0 ≤ (a : Int) ∧ (a : Int) < (blen : Int) := by omega
            have d4 : IntKind.i64.wrap ((a : Int) + 1) = (a : Int) + 1 := IntWalk.i64_in _ (by omega)
            generalize G a = p at *
            clear hbt
            replace rg := Lib.hid rg
            replace hG2 := Lib.hid hG2
            by_cases hp : p.t = 1
            · have d5 : (p.t != 1) = false := by simp [hp]
              have d5' : (p.t == 1) = true := by simp [hp]
              replace hp := Lib.hid hp
              go_wp2_with (first
                | refine wpList_load_mid (by rfl) 36 (.tmp 89) rfl pb (po + a * 5) rfl p.cells _ rg.out Tryd.underlying36 rfl (infoOp17 p) ?_
                | (refine wpList_store_op (by rfl) (.tmp 18) (.tmp 90) rfl p rfl rfl rfl ?_; intro w5 R5 B5; have q1 : w5.cell? ⟨wc.heap.size, 1, none⟩ = some (.int .i64 p.t) := (cell_of_row _ _ 1 _ _ _ R5.out).trans rfl; have st5 := st.out.below B5.out; replace st5 := Lib.hid st5))
              go_meet
              case rel => exact ⟨a + 1, by go_num, by omega, st5.out.mono (by omega)⟩
            · have d5 : (p.t != 1) = true := by simp [hp]
              have d5' : (p.t == 1) = false := by simp [hp]
              go_wp2_with (first
                | refine wpList_load_mid (by rfl) 36 (.tmp 89) rfl pb (po + a * 5) rfl p.cells _ rg.out Tryd.underlying36 rfl (infoOp17 p) ?_
                | (refine wpList_store_op (by rfl) (.tmp 18) (.tmp 90) rfl p rfl rfl rfl ?_; intro w5 R5 B5; have q1 : w5.cell? ⟨wc.heap.size, 1, none⟩ = some (.int .i64 p.t) := (cell_of_row _ _ 1 _ _ _ R5.out).trans rfl; have st5 := st.out.below B5.out; replace st5 := Lib.hid st5)
                | refine wpList_load_row (by rfl) 36 (.tmp 18) rfl wc.heap.size rfl 36 p.cells.toArray (0, 0) _ R5.out Tryd.underlying36 rfl (infoOp17 p) ?_)
              refine (other_pair st5.out hT.out (by omega) p he hp).mono ?_
              rintro e w6 ⟨⟨x, E, rfl⟩, P6⟩
              replace P6 := Lib.hid P6
              go_wp2_with fail
              go_meet
              case rel => exact ⟨a + 1, by go_num, by omega, P6.out.mono (by omega)⟩
        case rest =>
          clear st hbt
          obtain ⟨a', rfl, ha', st⟩ := hcut
          obtain ⟨am, cm, rfl, lm, gm⟩ := st.out.form1
          obtain ⟨ah, ch, rfl, lh, gh⟩ := st.out.form2
          have sh := st.out.short
          have d1' : 0 ≤ (i : Int) ∧ (i : Int) < (len : Int) := by omega
          have hO2 := hO.out.below st.out.low
          have hlt2 : i < len := by omega
          obtain ⟨pb, po, rfl⟩ := hO2.addr hlt2
          have c0 := hO2.cell0 hlt2
          have c4 := hO2.cell4 hlt2
          have hee := (hO2 i hlt2).1
          generalize (F i).k = kk at *
          generalize (F i).e = ee at *
          clear hO2
          replace st := Lib.hid st
          by_cases hk3 : kk = 3
          ·
            subst hk3
            have ct1 := take_one st.out hT.out (by omega)
            replace ct1 := Lib.hid ct1
            go_wp2_with (refine wpList_build2 (by rfl) 36 0 1 (.int .i64 3) (.int .i64 1) rfl _ built31 ?_)
            refine ct1.out.mono ?_
            rintro e w5 ⟨x, E, A2, rfl, hE, P5⟩
            have ct2 := take_two P5 hT.out (by omega)
            clear ct1 st
            replace P5 := Lib.hid P5
            replace ct2 := Lib.hid ct2
            replace hE := Lib.hid hE
            go_wp2_with (refine wpList_build2 (by rfl) 36 0 1 (.int .i64 3) (.int .i64 1) rfl _ built31 ?_)
            refine ct2.out.mono ?_
            rintro e w6 ⟨y, E2, C2, rfl, hE2, P6⟩
            clear ct2 P5
            replace hE := hE.out
            rcases hE with ⟨r1, rfl, rfl⟩ | ⟨r1, rfl, hA2⟩
            · obtain ⟨rfl, hC2⟩ : E2 = 60 ∧ C2 = C := by
                rcases hE2 with ⟨_, e1, e2⟩ | ⟨r2, _, _⟩
                · exact ⟨e1, e2⟩
                · have := hAC.out; omega
              subst hC2
              have stE := P6
              have dE : ((A2.length : Int) != (C2.length : Int)) = false := by rw [hAC.out]; simp
              have dE' : ((A2.length : Int) == (C2.length : Int)) = true := by rw [hAC.out]; simp
              clear hE2
              replace P6 := Lib.hid P6
              replace stE := Lib.hid stE
              go_wp2_with fail
              refine wp_region_held_drew (S := (fun w' => w'.cell? ⟨l1.ob, 0, none⟩ = some (.pointer (some ⟨l1.b, 0, none⟩)) ∧ w'.cell? ⟨l2.ob, 0, none⟩ = some (.pointer (some ⟨l2.b, 0, none⟩)))) (by kernel_rfl) (stE.out.cells) (fun hHeld => ?_)
              refine held_take (i := 0) (v := ?_) rfl (by kernel_rfl) (by kernel_rfl) (by kernel_rfl) (fun _ _ _ h => h) (Or.inl ⟨by rfl, ?_⟩) (by assumption) ?_
              rotate_left
              · intro w hSw; (try dsimp only at hSw); go_simp; try with_reducible rfl
              try simp only [Act.put, List.setIfInBounds_toArray, List.set_cons_zero, List.set_cons_succ]
              refine held_take (i := 1) (v := ?_) rfl (by kernel_rfl) (by kernel_rfl) (by kernel_rfl) (fun _ _ _ h => h) (Or.inl ⟨by rfl, ?_⟩) (by assumption) ?_
              rotate_left
              · intro w hSw; (try dsimp only at hSw); go_simp; try with_reducible rfl
              try simp only [Act.put, List.setIfInBounds_toArray, List.set_cons_zero, List.set_cons_succ]
              refine held_take (i := 2) (v := ?_) rfl (by kernel_rfl) (by kernel_rfl) (by kernel_rfl) (fun _ _ _ h => h) (Or.inl ⟨by rfl, ?_⟩) (by assumption) ?_
              rotate_left
              · intro w hSw; (try dsimp only at hSw); go_simp; try with_reducible rfl
              try simp only [Act.put, List.setIfInBounds_toArray, List.set_cons_zero, List.set_cons_succ]
              refine held_take (i := 3) (v := ?_) rfl (by kernel_rfl) (by kernel_rfl) (by kernel_rfl) (fun _ _ _ h => h) (Or.inl ⟨by rfl, ?_⟩) (by assumption) ?_
              rotate_left
              · intro w hSw; (try dsimp only at hSw); go_simp; try with_reducible rfl
              try simp only [Act.put, List.setIfInBounds_toArray, List.set_cons_zero, List.set_cons_succ]
              refine held_take (i := 5) (v := ?_) rfl (by kernel_rfl) (by kernel_rfl) (by kernel_rfl) (fun _ _ _ h => h) (Or.inl ⟨by rfl, ?_⟩) (by assumption) ?_
              rotate_left
              · intro w hSw; (try dsimp only at hSw); go_simp; try with_reducible rfl
              try simp only [Act.put, List.setIfInBounds_toArray, List.set_cons_zero, List.set_cons_succ]
              refine held_take (i := 6) (v := ?_) rfl (by kernel_rfl) (by kernel_rfl) (by kernel_rfl) (fun _ _ _ h => h) (Or.inl ⟨by rfl, ?_⟩) (by assumption) ?_
              rotate_left
              · intro w hSw; (try dsimp only at hSw); go_simp; try with_reducible rfl
              try simp only [Act.put, List.setIfInBounds_toArray, List.set_cons_zero, List.set_cons_succ]
              refine held_take (i := 7) (v := ?_) rfl (by kernel_rfl) (by kernel_rfl) (by kernel_rfl) (fun _ _ _ h => h) (Or.inl ⟨by rfl, ?_⟩) (by assumption) ?_
              rotate_left
              · intro w hSw; (try dsimp only at hSw); go_simp; try with_reducible rfl
              try simp only [Act.put, List.setIfInBounds_toArray, List.set_cons_zero, List.set_cons_succ]
              refine held_take (i := 8) (v := ?_) rfl (by kernel_rfl) (by kernel_rfl) (by kernel_rfl) (fun _ _ _ h => h) (Or.inl ⟨by rfl, ?_⟩) (by assumption) ?_
              rotate_left
              · intro w hSw; (try dsimp only at hSw); go_simp; try with_reducible rfl
              try simp only [Act.put, List.setIfInBounds_toArray, List.set_cons_zero, List.set_cons_succ]
              refine held_ready (i := 4) rfl (by kernel_rfl) (fun K hK => ?_)
              go_simp
              refine (charge_one stE.out.drew).mono ?_
              rintro e _ ⟨rfl, rfl⟩
              refine hK.out _ _ (stE.out.cells) (fun hHeldN => ?_)
              clear hHeld hK K
              have hHeld := hHeldN
              clear hHeldN
              try simp only [Act.put, List.setIfInBounds_toArray, List.set_cons_zero, List.set_cons_succ]
              refine held_ready (i := 9) rfl (by kernel_rfl) (fun K hK => ?_)
              go_simp
              refine (charge_two stE.out.drew).mono ?_
              rintro e _ ⟨rfl, rfl⟩
              refine hK.out _ _ (stE.out.cells) (fun hHeldN => ?_)
              clear hHeld hK K
              have hHeld := hHeldN
              clear hHeldN
              try simp only [Act.put, List.setIfInBounds_toArray, List.set_cons_zero, List.set_cons_succ]
              refine held_take (i := 10) (v := ?_) rfl (by kernel_rfl) (by kernel_rfl) (by kernel_rfl) (fun _ _ _ h => h) (Or.inl ⟨by rfl, ?_⟩) (by assumption) ?_
              rotate_left
              · intro w hSw; (try dsimp only at hSw); go_simp; try with_reducible rfl
              try simp only [Act.put, List.setIfInBounds_toArray, List.set_cons_zero, List.set_cons_succ]
              refine wpAnyH_done (by kernel_rfl) ?_ _
              clear hHeld
              go_wp2_with fail
              go_roundw
              case rel => exact ⟨i + 1, a', A2, C2, by omega, by omega, by go_num, rfl, ha', hAC.out, stE.out.drew.mono (by omega)⟩
              case measure => simp [intOf]; omega
            · obtain ⟨rfl, hC2⟩ : E2 = 0 ∧ C2 = C ++ [y] := by
                rcases hE2 with ⟨r2, _, _⟩ | ⟨_, e1, e2⟩
                · have := hAC.out; omega
                · exact ⟨e1, e2⟩
              have hAC2 : A2.length = C2.length := by rw [hA2, hC2, List.length_append, List.length_append, hAC.out]; rfl
              have dE : ((A2.length : Int) != (C2.length : Int)) = false := by rw [hAC2]; simp
              have dE' : ((A2.length : Int) == (C2.length : Int)) = true := by rw [hAC2]; simp
              have PX := P6.below ((Below.refl _ _).alloc (Nat.le_refl _) (.cells #[.int .u32 (x : Int)] 34))
              have lA : A.length ≤ 100 := by omega
              have lC : C.length ≤ 100 := by omega
              clear hE2
              replace P6 := Lib.hid P6
              replace PX := Lib.hid PX
              replace hA2 := Lib.hid hA2
              replace hC2 := Lib.hid hC2
              replace hAC2 := Lib.hid hAC2
              go_wp2_with (first
                | (refine wpList_append_run1 (by rfl) (.tmp 123) (.tmp 125) 33 rfl (.slice am A.length cm) (.slice (some ⟨w6.heap.size, 0, none⟩) 1 1) rfl rfl (Run.push B0 (.slice am A.length cm) A x w6.heap.size _ PX.out.run1 PX.out.le lA (by simp) _) ?_; intro v7 w7 Q7; rw [← hA2.out] at Q7; have P7 := PX.out.put1 hT.out Q7; have PY := P7.below ((Below.refl _ _).alloc (Nat.le_refl _) (.cells #[.int .u32 (y : Int)] 34)); clear Q7; replace P7 := Lib.hid P7; replace PY := Lib.hid PY)
                | (refine wpList_append_run1 (by rfl) (.tmp 127) (.tmp 129) 33 rfl (.slice ah C.length ch) (.slice (some ⟨w7.heap.size, 0, none⟩) 1 1) rfl rfl (Run.push B0 (.slice ah C.length ch) C y w7.heap.size _ PY.out.run2 PY.out.le lC (by simp) _) ?_; intro v8 w8 Q8; rw [← hC2.out] at Q8; have stE := PY.out.put2 hT.out Q8; clear Q8; replace stE := Lib.hid stE))
              refine wp_region_held_drew (S := (fun w' => w'.cell? ⟨l1.ob, 0, none⟩ = some (.pointer (some ⟨l1.b, 0, none⟩)) ∧ w'.cell? ⟨l2.ob, 0, none⟩ = some (.pointer (some ⟨l2.b, 0, none⟩)))) (by kernel_rfl) (stE.out.cells) (fun hHeld => ?_)
              refine held_take (i := 0) (v := ?_) rfl (by kernel_rfl) (by kernel_rfl) (by kernel_rfl) (fun _ _ _ h => h) (Or.inl ⟨by rfl, ?_⟩) (by assumption) ?_
              rotate_left
              · intro w hSw; (try dsimp only at hSw); go_simp; try with_reducible rfl
              try simp only [Act.put, List.setIfInBounds_toArray, List.set_cons_zero, List.set_cons_succ]
              refine held_take (i := 1) (v := ?_) rfl (by kernel_rfl) (by kernel_rfl) (by kernel_rfl) (fun _ _ _ h => h) (Or.inl ⟨by rfl, ?_⟩) (by assumption) ?_
              rotate_left
              · intro w hSw; (try dsimp only at hSw); go_simp; try with_reducible rfl
              try simp only [Act.put, List.setIfInBounds_toArray, List.set_cons_zero, List.set_cons_succ]
              refine held_take (i := 2) (v := ?_) rfl (by kernel_rfl) (by kernel_rfl) (by kernel_rfl) (fun _ _ _ h => h) (Or.inl ⟨by rfl, ?_⟩) (by assumption) ?_
              rotate_left
              · intro w hSw; (try dsimp only at hSw); go_simp; try with_reducible rfl
              try simp only [Act.put, List.setIfInBounds_toArray, List.set_cons_zero, List.set_cons_succ]
              refine held_take (i := 3) (v := ?_) rfl (by kernel_rfl) (by kernel_rfl) (by kernel_rfl) (fun _ _ _ h => h) (Or.inl ⟨by rfl, ?_⟩) (by assumption) ?_
              rotate_left
              · intro w hSw; (try dsimp only at hSw); go_simp; try with_reducible rfl
              try simp only [Act.put, List.setIfInBounds_toArray, List.set_cons_zero, List.set_cons_succ]
              refine held_take (i := 5) (v := ?_) rfl (by kernel_rfl) (by kernel_rfl) (by kernel_rfl) (fun _ _ _ h => h) (Or.inl ⟨by rfl, ?_⟩) (by assumption) ?_
              rotate_left
              · intro w hSw; (try dsimp only at hSw); go_simp; try with_reducible rfl
              try simp only [Act.put, List.setIfInBounds_toArray, List.set_cons_zero, List.set_cons_succ]
              refine held_take (i := 6) (v := ?_) rfl (by kernel_rfl) (by kernel_rfl) (by kernel_rfl) (fun _ _ _ h => h) (Or.inl ⟨by rfl, ?_⟩) (by assumption) ?_
              rotate_left
              · intro w hSw; (try dsimp only at hSw); go_simp; try with_reducible rfl
              try simp only [Act.put, List.setIfInBounds_toArray, List.set_cons_zero, List.set_cons_succ]
              refine held_take (i := 7) (v := ?_) rfl (by kernel_rfl) (by kernel_rfl) (by kernel_rfl) (fun _ _ _ h => h) (Or.inl ⟨by rfl, ?_⟩) (by assumption) ?_
              rotate_left
              · intro w hSw; (try dsimp only at hSw); go_simp; try with_reducible rfl
              try simp only [Act.put, List.setIfInBounds_toArray, List.set_cons_zero, List.set_cons_succ]
              refine held_take (i := 8) (v := ?_) rfl (by kernel_rfl) (by kernel_rfl) (by kernel_rfl) (fun _ _ _ h => h) (Or.inl ⟨by rfl, ?_⟩) (by assumption) ?_
              rotate_left
              · intro w hSw; (try dsimp only at hSw); go_simp; try with_reducible rfl
              try simp only [Act.put, List.setIfInBounds_toArray, List.set_cons_zero, List.set_cons_succ]
              refine held_ready (i := 4) rfl (by kernel_rfl) (fun K hK => ?_)
              go_simp
              refine (charge_one stE.out.drew).mono ?_
              rintro e _ ⟨rfl, rfl⟩
              refine hK.out _ _ (stE.out.cells) (fun hHeldN => ?_)
              clear hHeld hK K
              have hHeld := hHeldN
              clear hHeldN
              try simp only [Act.put, List.setIfInBounds_toArray, List.set_cons_zero, List.set_cons_succ]
              refine held_ready (i := 9) rfl (by kernel_rfl) (fun K hK => ?_)
              go_simp
              refine (charge_two stE.out.drew).mono ?_
              rintro e _ ⟨rfl, rfl⟩
              refine hK.out _ _ (stE.out.cells) (fun hHeldN => ?_)
              clear hHeld hK K
              have hHeld := hHeldN
              clear hHeldN
              try simp only [Act.put, List.setIfInBounds_toArray, List.set_cons_zero, List.set_cons_succ]
              refine held_take (i := 10) (v := ?_) rfl (by kernel_rfl) (by kernel_rfl) (by kernel_rfl) (fun _ _ _ h => h) (Or.inl ⟨by rfl, ?_⟩) (by assumption) ?_
              rotate_left
              · intro w hSw; (try dsimp only at hSw); go_simp; try with_reducible rfl
              try simp only [Act.put, List.setIfInBounds_toArray, List.set_cons_zero, List.set_cons_succ]
              refine wpAnyH_done (by kernel_rfl) ?_ _
              clear hHeld
              go_wp2_with fail
              go_roundw
              case rel => exact ⟨i + 1, a', A2, C2, by omega, by omega, by go_num, rfl, ha', hAC2.out, stE.out.drew.mono (by omega)⟩
              case measure => simp [intOf]; omega
          · have k3 : (kk == 3) = false := by simp [hk3]
            by_cases hk6 : kk = 6
            ·
              subst hk6
              by_cases hA0 : A.length = 0
              · have dA : ((A.length : Int) == 0) = true := by simp [hA0]
                replace hA0 := Lib.hid hA0
                go_wp2_with fail
                go_roundw
                case rel => exact ⟨i + 1, a', A, C, by omega, by omega, by go_num, rfl, ha', hAC.out, st.out.mono (by omega)⟩
                case measure => simp [intOf]; omega
              · have dA : ((A.length : Int) == 0) = false := by simp; intro e; exact hA0 (by rw [e]; rfl)
                have xn : ¬ (A.length : Int) = 0 := by omega
                have x1 : (ee : Int).tmod (A.length : Int) = ((ee % A.length : Nat) : Int) := by rw [Int.tmod_eq_emod_of_nonneg (by omega)]; rfl
                have x2 : IntKind.i64.wrap (ee : Int) = (ee : Int) := IntWalk.i64_in _ (by omega)
                have hk : ee % A.length < A.length := Nat.mod_lt _ (by omega)
                obtain ⟨g1, rfl⟩ := gm (by omega)
                obtain ⟨g2, rfl⟩ := gh (by have := hAC.out; omega)
                generalize ee % A.length = k at *
                have hk' : k < C.length := by have := hAC.out; omega
                have x3 : IntKind.i64.wrap (k : Int) = (k : Int) := IntWalk.i64_in _ (by omega)
                have x4 : IntKind.i64.wrap ((k : Int) + 1) = (k : Int) + 1 := IntWalk.i64_in _ (by omega)
                have d7 : 0 ≤ (k : Int) ∧ (k : Int) < (A.length : Int) := by omega
                have d8 : 0 ≤ (k : Int) ∧ (k : Int) < (C.length : Int) := by omega
                have q1 := cut_hm17 (some ⟨g1, 0, none⟩) A.length cm k (by omega)
                have q2 := cut_l17 (some ⟨g1, 0, none⟩) A.length cm k (by omega)
                have q3 := cut_hm17 (some ⟨g2, 0, none⟩) C.length ch k (by omega)
                have q4 := cut_l17 (some ⟨g2, 0, none⟩) C.length ch k (by omega)
                have hAC2 : (A.eraseIdx k).length = (C.eraseIdx k).length := by rw [List.length_eraseIdx, List.length_eraseIdx, if_pos hk, if_pos hk', hAC.out]
                obtain ⟨A2, hA2⟩ : ∃ l, l = A.eraseIdx k := ⟨_, rfl⟩
                obtain ⟨C2, hC2⟩ : ∃ l, l = C.eraseIdx k := ⟨_, rfl⟩
                rw [← hA2, ← hC2] at hAC2
                have dE : ((A2.length : Int) != (C2.length : Int)) = false := by rw [hAC2]; simp
                have dE' : ((A2.length : Int) == (C2.length : Int)) = true := by rw [hAC2]; simp
                obtain ⟨xa, hxa⟩ : ∃ l, l = A.getD k 0 := ⟨_, rfl⟩
                obtain ⟨xb, hxb⟩ : ∃ l, l = C.getD k 0 := ⟨_, rfl⟩
                have lA : A.length ≤ 100 := by omega
                have lC : C.length ≤ 100 := by omega
                clear gm gh
                replace hAC2 := Lib.hid hAC2
                replace hA2 := Lib.hid hA2
                replace hC2 := Lib.hid hC2
                replace hxa := Lib.hid hxa
                replace hxb := Lib.hid hxb
                go_wp2_with fail
                refine wp_region_held_drew (S := (fun w' => w'.cell? ⟨l1.ob, 0, none⟩ = some (.pointer (some ⟨l1.b, 0, none⟩)) ∧ w'.cell? ⟨l2.ob, 0, none⟩ = some (.pointer (some ⟨l2.b, 0, none⟩)) ∧ w'.cell? ⟨g1, k, none⟩ = some (.int .u32 (xa : Int)) ∧ w'.cell? ⟨g2, k, none⟩ = some (.int .u32 (xb : Int)))) (by kernel_rfl) (st.out.four hk hk' hxa.out hxb.out) (fun hHeld => ?_)
                refine held_take (i := 0) (v := ?_) rfl (by kernel_rfl) (by kernel_rfl) (by kernel_rfl) (fun _ _ _ h => h) (Or.inl ⟨by rfl, ?_⟩) (by assumption) ?_
                rotate_left
                · intro w hSw; (try dsimp only at hSw); go_simp; try with_reducible rfl
                try simp only [Act.put, List.setIfInBounds_toArray, List.set_cons_zero, List.set_cons_succ]
                refine held_take (i := 1) (v := ?_) rfl (by kernel_rfl) (by kernel_rfl) (by kernel_rfl) (fun _ _ _ h => h) (Or.inl ⟨by rfl, ?_⟩) (by assumption) ?_
                rotate_left
                · intro w hSw; (try dsimp only at hSw); go_simp; try with_reducible rfl
                try simp only [Act.put, List.setIfInBounds_toArray, List.set_cons_zero, List.set_cons_succ]
                refine held_take (i := 2) (v := ?_) rfl (by kernel_rfl) (by kernel_rfl) (by kernel_rfl) (fun _ _ _ h => h) (Or.inl ⟨by rfl, ?_⟩) (by assumption) ?_
                rotate_left
                · intro w hSw; (try dsimp only at hSw); go_simp; try with_reducible rfl
                try simp only [Act.put, List.setIfInBounds_toArray, List.set_cons_zero, List.set_cons_succ]
                refine held_take (i := 3) (v := ?_) rfl (by kernel_rfl) (by kernel_rfl) (by kernel_rfl) (fun _ _ _ h => h) (Or.inl ⟨by rfl, ?_⟩) (by assumption) ?_
                rotate_left
                · intro w hSw; (try dsimp only at hSw); go_simp; try with_reducible rfl
                try simp only [Act.put, List.setIfInBounds_toArray, List.set_cons_zero, List.set_cons_succ]
                refine held_take (i := 4) (v := ?_) rfl (by kernel_rfl) (by kernel_rfl) (by kernel_rfl) (fun _ _ _ h => h) (Or.inl ⟨by rfl, ?_⟩) (by assumption) ?_
                rotate_left
                · intro w hSw; (try dsimp only at hSw); go_simp; try with_reducible rfl
                try simp only [Act.put, List.setIfInBounds_toArray, List.set_cons_zero, List.set_cons_succ]
                refine held_take (i := 5) (v := ?_) rfl (by kernel_rfl) (by kernel_rfl) (by kernel_rfl) (fun _ _ _ h => h) (Or.inl ⟨by rfl, ?_⟩) (by assumption) ?_
                rotate_left
                · intro w hSw; (try dsimp only at hSw); go_simp; try with_reducible rfl
                try simp only [Act.put, List.setIfInBounds_toArray, List.set_cons_zero, List.set_cons_succ]
                refine held_take (i := 6) (v := ?_) rfl (by kernel_rfl) (by kernel_rfl) (by kernel_rfl) (fun _ _ _ h => h) (Or.inl ⟨by rfl, ?_⟩) (by assumption) ?_
                rotate_left
                · intro w hSw; (try dsimp only at hSw); go_simp; try with_reducible rfl
                try simp only [Act.put, List.setIfInBounds_toArray, List.set_cons_zero, List.set_cons_succ]
                refine held_take (i := 7) (v := ?_) rfl (by kernel_rfl) (by kernel_rfl) (by kernel_rfl) (fun _ _ _ h => h) (Or.inl ⟨by rfl, ?_⟩) (by assumption) ?_
                rotate_left
                · intro w hSw; (try dsimp only at hSw); go_simp; try with_reducible rfl
                try simp only [Act.put, List.setIfInBounds_toArray, List.set_cons_zero, List.set_cons_succ]
                refine held_take (i := 9) (v := ?_) rfl (by kernel_rfl) (by kernel_rfl) (by kernel_rfl) (fun _ _ _ h => h) (Or.inl ⟨by rfl, ?_⟩) (by assumption) ?_
                rotate_left
                · intro w hSw; (try dsimp only at hSw); go_simp; try with_reducible rfl
                try simp only [Act.put, List.setIfInBounds_toArray, List.set_cons_zero, List.set_cons_succ]
                refine held_take (i := 10) (v := ?_) rfl (by kernel_rfl) (by kernel_rfl) (by kernel_rfl) (fun _ _ _ h => h) (Or.inl ⟨by rfl, ?_⟩) (by assumption) ?_
                rotate_left
                · intro w hSw; (try dsimp only at hSw); go_simp; try with_reducible rfl
                try simp only [Act.put, List.setIfInBounds_toArray, List.set_cons_zero, List.set_cons_succ]
                refine held_take (i := 11) (v := ?_) rfl (by kernel_rfl) (by kernel_rfl) (by kernel_rfl) (fun _ _ _ h => h) (Or.inl ⟨by rfl, ?_⟩) (by assumption) ?_
                rotate_left
                · intro w hSw; (try dsimp only at hSw); go_simp; try with_reducible rfl
                try simp only [Act.put, List.setIfInBounds_toArray, List.set_cons_zero, List.set_cons_succ]
                refine held_take (i := 12) (v := ?_) rfl (by kernel_rfl) (by kernel_rfl) (by kernel_rfl) (fun _ _ _ h => h) (Or.inl ⟨by rfl, ?_⟩) (by assumption) ?_
                rotate_left
                · intro w hSw; (try dsimp only at hSw); go_simp; try with_reducible rfl
                try simp only [Act.put, List.setIfInBounds_toArray, List.set_cons_zero, List.set_cons_succ]
                refine held_take (i := 13) (v := ?_) rfl (by kernel_rfl) (by kernel_rfl) (by kernel_rfl) (fun _ _ _ h => h) (Or.inl ⟨by rfl, ?_⟩) (by assumption) ?_
                rotate_left
                · intro w hSw; (try dsimp only at hSw); go_simp; try with_reducible rfl
                try simp only [Act.put, List.setIfInBounds_toArray, List.set_cons_zero, List.set_cons_succ]
                refine held_take (i := 14) (v := ?_) rfl (by kernel_rfl) (by kernel_rfl) (by kernel_rfl) (fun _ _ _ h => h) (Or.inl ⟨by rfl, ?_⟩) (by assumption) ?_
                rotate_left
                · intro w hSw; (try dsimp only at hSw); go_simp; try with_reducible rfl
                try simp only [Act.put, List.setIfInBounds_toArray, List.set_cons_zero, List.set_cons_succ]
                refine held_take (i := 15) (v := ?_) rfl (by kernel_rfl) (by kernel_rfl) (by kernel_rfl) (fun _ _ _ h => h) (Or.inl ⟨by rfl, ?_⟩) (by assumption) ?_
                rotate_left
                · intro w hSw; (try dsimp only at hSw); go_simp; try with_reducible rfl
                try simp only [Act.put, List.setIfInBounds_toArray, List.set_cons_zero, List.set_cons_succ]
                refine held_take (i := 16) (v := ?_) rfl (by kernel_rfl) (by kernel_rfl) (by kernel_rfl) (fun _ _ _ h => h) (Or.inl ⟨by rfl, ?_⟩) (by assumption) ?_
                rotate_left
                · intro w hSw; (try dsimp only at hSw); go_simp; try with_reducible rfl
                try simp only [Act.put, List.setIfInBounds_toArray, List.set_cons_zero, List.set_cons_succ]
                refine held_ready (i := 8) rfl (by kernel_rfl) (fun K hK => ?_)
                go_simp
                refine (drop_mine st.out.drew hT.out (by omega) k hk xa hxa.out).mono ?_
                rintro e w5 ⟨rfl, P5⟩
                rw [← hA2.out] at P5
                clear st
                replace P5 := Lib.hid P5
                refine hK.out _ _ (P5.out.four hk hk' hxa.out hxb.out) (fun hHeldN => ?_)
                clear hHeld hK K
                have hHeld := hHeldN
                clear hHeldN
                try simp only [Act.put, List.setIfInBounds_toArray, List.set_cons_zero, List.set_cons_succ]
                refine held_ready (i := 17) rfl (by kernel_rfl) (fun K hK => ?_)
                go_simp
                refine (drop_his P5.out hT.out (by omega) k hk' xb hxb.out).mono ?_
                rintro e w6 ⟨rfl, P6⟩
                rw [← hC2.out] at P6
                clear P5
                replace P6 := Lib.hid P6
                refine hK.out _ _ (P6.out.four hk hk' hxa.out hxb.out) (fun hHeldN => ?_)
                clear hHeld hK K
                have hHeld := hHeldN
                clear hHeldN
                try simp only [Act.put, List.setIfInBounds_toArray, List.set_cons_zero, List.set_cons_succ]
                refine held_take (i := 18) (v := ?_) rfl (by kernel_rfl) (by kernel_rfl) (by kernel_rfl) (fun _ _ _ h => h) (Or.inl ⟨by rfl, ?_⟩) (by assumption) ?_
                rotate_left
                · intro w hSw; (try dsimp only at hSw); go_simp; try with_reducible rfl
                try simp only [Act.put, List.setIfInBounds_toArray, List.set_cons_zero, List.set_cons_succ]
                refine wpAnyH_done (by kernel_rfl) ?_ _
                clear hHeld
                go_wp2_with fail
                refine wp_region_held_drew (S := (fun _ => True)) (by kernel_rfl) (trivial) (fun hHeld => ?_)
                refine held_take (i := 0) (v := ?_) rfl (by kernel_rfl) (by kernel_rfl) (by kernel_rfl) (fun _ _ _ h => h) (Or.inl ⟨by rfl, ?_⟩) (by assumption) ?_
                rotate_left
                · intro w hSw; (try dsimp only at hSw); go_simp; try with_reducible rfl
                try simp only [Act.put, List.setIfInBounds_toArray, List.set_cons_zero, List.set_cons_succ]
                refine held_take (i := 1) (v := ?_) rfl (by kernel_rfl) (by kernel_rfl) (by kernel_rfl) (fun _ _ _ h => h) (Or.inl ⟨by rfl, ?_⟩) (by assumption) ?_
                rotate_left
                · intro w hSw; (try dsimp only at hSw); go_simp; try with_reducible rfl
                try simp only [Act.put, List.setIfInBounds_toArray, List.set_cons_zero, List.set_cons_succ]
                refine held_take (i := 2) (v := ?_) rfl (by kernel_rfl) (by kernel_rfl) (by kernel_rfl) (fun _ _ _ h => h) (Or.inl ⟨by rfl, ?_⟩) (by assumption) ?_
                rotate_left
                · intro w hSw; (try dsimp only at hSw); go_simp; try with_reducible rfl
                try simp only [Act.put, List.setIfInBounds_toArray, List.set_cons_zero, List.set_cons_succ]
                refine held_take (i := 3) (v := ?_) rfl (by kernel_rfl) (by kernel_rfl) (by kernel_rfl) (fun _ _ _ h => h) (Or.inl ⟨by rfl, ?_⟩) (by assumption) ?_
                rotate_left
                · intro w hSw; (try dsimp only at hSw); go_simp; try with_reducible rfl
                try simp only [Act.put, List.setIfInBounds_toArray, List.set_cons_zero, List.set_cons_succ]
                refine held_take (i := 4) (v := ?_) rfl (by kernel_rfl) (by kernel_rfl) (by kernel_rfl) (fun _ _ _ h => h) (Or.inl ⟨by rfl, ?_⟩) (by assumption) ?_
                rotate_left
                · intro w hSw; (try dsimp only at hSw); go_simp; try with_reducible rfl
                try simp only [Act.put, List.setIfInBounds_toArray, List.set_cons_zero, List.set_cons_succ]
                refine held_take (i := 5) (v := ?_) rfl (by kernel_rfl) (by kernel_rfl) (by kernel_rfl) (fun _ _ _ h => h) (Or.inl ⟨by rfl, ?_⟩) (by assumption) ?_
                rotate_left
                · intro w hSw; (try dsimp only at hSw); go_simp; try with_reducible rfl
                try simp only [Act.put, List.setIfInBounds_toArray, List.set_cons_zero, List.set_cons_succ]
                refine held_take (i := 6) (v := ?_) rfl (by kernel_rfl) (by kernel_rfl) (by kernel_rfl) (fun _ _ _ h => h) (Or.inl ⟨by rfl, ?_⟩) (by assumption) ?_
                rotate_left
                · intro w hSw; (try dsimp only at hSw); go_simp; try with_reducible rfl
                try simp only [Act.put, List.setIfInBounds_toArray, List.set_cons_zero, List.set_cons_succ]
                refine held_take (i := 7) (v := ?_) rfl (by kernel_rfl) (by kernel_rfl) (by kernel_rfl) (fun _ _ _ h => h) (Or.inl ⟨by rfl, ?_⟩) (by assumption) ?_
                rotate_left
                · intro w hSw; (try dsimp only at hSw); go_simp; try with_reducible rfl
                try simp only [Act.put, List.setIfInBounds_toArray, List.set_cons_zero, List.set_cons_succ]
                refine held_ready (i := 8) rfl (by kernel_rfl) (fun K hK => ?_)
                rw [if_pos (by rfl)]
                refine wp_append_run1 (.tmp 167) (.tmp 171) 33 rfl (cut1 (some ⟨g1, 0, none⟩) 0 k k) (cut1 (some ⟨g1, 0, none⟩) (k + 1) A.length cm) rfl rfl (Run.strike B0 (some ⟨g1, 0, none⟩) A.length cm A k _ P6.out.drew.run1 rfl P6.out.drew.le hk lA _) ?_
                intro v7 w7 Q7
                rw [← hA2.out] at Q7
                have P7 := P6.out.drew.put1 hT.out Q7
                clear Q7 P6
                replace P7 := Lib.hid P7
                refine hK.out _ _ (trivial) (fun hHeldN => ?_)
                clear hHeld hK K
                have hHeld := hHeldN
                clear hHeldN
                try simp only [Act.put, List.setIfInBounds_toArray, List.set_cons_zero, List.set_cons_succ]
                refine held_take (i := 9) (v := ?_) rfl (by kernel_rfl) (by kernel_rfl) (by kernel_rfl) (fun _ _ _ h => h) (Or.inl ⟨by rfl, ?_⟩) (by assumption) ?_
                rotate_left
                · intro w hSw; (try dsimp only at hSw); go_simp; try with_reducible rfl
                try simp only [Act.put, List.setIfInBounds_toArray, List.set_cons_zero, List.set_cons_succ]
                refine wpAnyH_done (by kernel_rfl) ?_ _
                clear hHeld
                go_wp2_with fail
                refine wp_region_held_drew (S := (fun _ => True)) (by kernel_rfl) (trivial) (fun hHeld => ?_)
                refine held_take (i := 0) (v := ?_) rfl (by kernel_rfl) (by kernel_rfl) (by kernel_rfl) (fun _ _ _ h => h) (Or.inl ⟨by rfl, ?_⟩) (by assumption) ?_
                rotate_left
                · intro w hSw; (try dsimp only at hSw); go_simp; try with_reducible rfl
                try simp only [Act.put, List.setIfInBounds_toArray, List.set_cons_zero, List.set_cons_succ]
                refine held_take (i := 1) (v := ?_) rfl (by kernel_rfl) (by kernel_rfl) (by kernel_rfl) (fun _ _ _ h => h) (Or.inl ⟨by rfl, ?_⟩) (by assumption) ?_
                rotate_left
                · intro w hSw; (try dsimp only at hSw); go_simp; try with_reducible rfl
                try simp only [Act.put, List.setIfInBounds_toArray, List.set_cons_zero, List.set_cons_succ]
                refine held_take (i := 2) (v := ?_) rfl (by kernel_rfl) (by kernel_rfl) (by kernel_rfl) (fun _ _ _ h => h) (Or.inl ⟨by rfl, ?_⟩) (by assumption) ?_
                rotate_left
                · intro w hSw; (try dsimp only at hSw); go_simp; try with_reducible rfl
                try simp only [Act.put, List.setIfInBounds_toArray, List.set_cons_zero, List.set_cons_succ]
                refine held_take (i := 3) (v := ?_) rfl (by kernel_rfl) (by kernel_rfl) (by kernel_rfl) (fun _ _ _ h => h) (Or.inl ⟨by rfl, ?_⟩) (by assumption) ?_
                rotate_left
                · intro w hSw; (try dsimp only at hSw); go_simp; try with_reducible rfl
                try simp only [Act.put, List.setIfInBounds_toArray, List.set_cons_zero, List.set_cons_succ]
                refine held_take (i := 4) (v := ?_) rfl (by kernel_rfl) (by kernel_rfl) (by kernel_rfl) (fun _ _ _ h => h) (Or.inl ⟨by rfl, ?_⟩) (by assumption) ?_
                rotate_left
                · intro w hSw; (try dsimp only at hSw); go_simp; try with_reducible rfl
                try simp only [Act.put, List.setIfInBounds_toArray, List.set_cons_zero, List.set_cons_succ]
                refine held_take (i := 5) (v := ?_) rfl (by kernel_rfl) (by kernel_rfl) (by kernel_rfl) (fun _ _ _ h => h) (Or.inl ⟨by rfl, ?_⟩) (by assumption) ?_
                rotate_left
                · intro w hSw; (try dsimp only at hSw); go_simp; try with_reducible rfl
                try simp only [Act.put, List.setIfInBounds_toArray, List.set_cons_zero, List.set_cons_succ]
                refine held_take (i := 6) (v := ?_) rfl (by kernel_rfl) (by kernel_rfl) (by kernel_rfl) (fun _ _ _ h => h) (Or.inl ⟨by rfl, ?_⟩) (by assumption) ?_
                rotate_left
                · intro w hSw; (try dsimp only at hSw); go_simp; try with_reducible rfl
                try simp only [Act.put, List.setIfInBounds_toArray, List.set_cons_zero, List.set_cons_succ]
                refine held_take (i := 7) (v := ?_) rfl (by kernel_rfl) (by kernel_rfl) (by kernel_rfl) (fun _ _ _ h => h) (Or.inl ⟨by rfl, ?_⟩) (by assumption) ?_
                rotate_left
                · intro w hSw; (try dsimp only at hSw); go_simp; try with_reducible rfl
                try simp only [Act.put, List.setIfInBounds_toArray, List.set_cons_zero, List.set_cons_succ]
                refine held_ready (i := 8) rfl (by kernel_rfl) (fun K hK => ?_)
                rw [if_pos (by rfl)]
                refine wp_append_run1 (.tmp 176) (.tmp 180) 33 rfl (cut1 (some ⟨g2, 0, none⟩) 0 k k) (cut1 (some ⟨g2, 0, none⟩) (k + 1) C.length ch) rfl rfl (Run.strike B0 (some ⟨g2, 0, none⟩) C.length ch C k _ P7.out.drew.run2 rfl P7.out.drew.le hk' lC _) ?_
                intro v8 w8 Q8
                rw [← hC2.out] at Q8
                have stE := P7.out.drew.put2 hT.out Q8
                clear Q8 P7
                replace stE := Lib.hid stE
                refine hK.out _ _ (trivial) (fun hHeldN => ?_)
                clear hHeld hK K
                have hHeld := hHeldN
                clear hHeldN
                try simp only [Act.put, List.setIfInBounds_toArray, List.set_cons_zero, List.set_cons_succ]
                refine held_take (i := 9) (v := ?_) rfl (by kernel_rfl) (by kernel_rfl) (by kernel_rfl) (fun _ _ _ h => h) (Or.inl ⟨by rfl, ?_⟩) (by assumption) ?_
                rotate_left
                · intro w hSw; (try dsimp only at hSw); go_simp; try with_reducible rfl
                try simp only [Act.put, List.setIfInBounds_toArray, List.set_cons_zero, List.set_cons_succ]
                refine wpAnyH_done (by kernel_rfl) ?_ _
                clear hHeld
                go_wp2_with fail
                refine wp_region_held_drew (S := (fun w' => w'.cell? ⟨l1.ob, 0, none⟩ = some (.pointer (some ⟨l1.b, 0, none⟩)) ∧ w'.cell? ⟨l2.ob, 0, none⟩ = some (.pointer (some ⟨l2.b, 0, none⟩)))) (by kernel_rfl) (stE.out.cells) (fun hHeld => ?_)
                refine held_take (i := 0) (v := ?_) rfl (by kernel_rfl) (by kernel_rfl) (by kernel_rfl) (fun _ _ _ h => h) (Or.inl ⟨by rfl, ?_⟩) (by assumption) ?_
                rotate_left
                · intro w hSw; (try dsimp only at hSw); go_simp; try with_reducible rfl
                try simp only [Act.put, List.setIfInBounds_toArray, List.set_cons_zero, List.set_cons_succ]
                refine held_take (i := 1) (v := ?_) rfl (by kernel_rfl) (by kernel_rfl) (by kernel_rfl) (fun _ _ _ h => h) (Or.inl ⟨by rfl, ?_⟩) (by assumption) ?_
                rotate_left
                · intro w hSw; (try dsimp only at hSw); go_simp; try with_reducible rfl
                try simp only [Act.put, List.setIfInBounds_toArray, List.set_cons_zero, List.set_cons_succ]
                refine held_take (i := 2) (v := ?_) rfl (by kernel_rfl) (by kernel_rfl) (by kernel_rfl) (fun _ _ _ h => h) (Or.inl ⟨by rfl, ?_⟩) (by assumption) ?_
                rotate_left
                · intro w hSw; (try dsimp only at hSw); go_simp; try with_reducible rfl
                try simp only [Act.put, List.setIfInBounds_toArray, List.set_cons_zero, List.set_cons_succ]
                refine held_take (i := 3) (v := ?_) rfl (by kernel_rfl) (by kernel_rfl) (by kernel_rfl) (fun _ _ _ h => h) (Or.inl ⟨by rfl, ?_⟩) (by assumption) ?_
                rotate_left
                · intro w hSw; (try dsimp only at hSw); go_simp; try with_reducible rfl
                try simp only [Act.put, List.setIfInBounds_toArray, List.set_cons_zero, List.set_cons_succ]
                refine held_take (i := 5) (v := ?_) rfl (by kernel_rfl) (by kernel_rfl) (by kernel_rfl) (fun _ _ _ h => h) (Or.inl ⟨by rfl, ?_⟩) (by assumption) ?_
                rotate_left
                · intro w hSw; (try dsimp only at hSw); go_simp; try with_reducible rfl
                try simp only [Act.put, List.setIfInBounds_toArray, List.set_cons_zero, List.set_cons_succ]
                refine held_take (i := 6) (v := ?_) rfl (by kernel_rfl) (by kernel_rfl) (by kernel_rfl) (fun _ _ _ h => h) (Or.inl ⟨by rfl, ?_⟩) (by assumption) ?_
                rotate_left
                · intro w hSw; (try dsimp only at hSw); go_simp; try with_reducible rfl
                try simp only [Act.put, List.setIfInBounds_toArray, List.set_cons_zero, List.set_cons_succ]
                refine held_take (i := 7) (v := ?_) rfl (by kernel_rfl) (by kernel_rfl) (by kernel_rfl) (fun _ _ _ h => h) (Or.inl ⟨by rfl, ?_⟩) (by assumption) ?_
                rotate_left
                · intro w hSw; (try dsimp only at hSw); go_simp; try with_reducible rfl
                try simp only [Act.put, List.setIfInBounds_toArray, List.set_cons_zero, List.set_cons_succ]
                refine held_take (i := 8) (v := ?_) rfl (by kernel_rfl) (by kernel_rfl) (by kernel_rfl) (fun _ _ _ h => h) (Or.inl ⟨by rfl, ?_⟩) (by assumption) ?_
                rotate_left
                · intro w hSw; (try dsimp only at hSw); go_simp; try with_reducible rfl
                try simp only [Act.put, List.setIfInBounds_toArray, List.set_cons_zero, List.set_cons_succ]
                refine held_ready (i := 4) rfl (by kernel_rfl) (fun K hK => ?_)
                go_simp
                refine (charge_one stE.out.drew).mono ?_
                rintro e _ ⟨rfl, rfl⟩
                refine hK.out _ _ (stE.out.cells) (fun hHeldN => ?_)
                clear hHeld hK K
                have hHeld := hHeldN
                clear hHeldN
                try simp only [Act.put, List.setIfInBounds_toArray, List.set_cons_zero, List.set_cons_succ]
                refine held_ready (i := 9) rfl (by kernel_rfl) (fun K hK => ?_)
                go_simp
                refine (charge_two stE.out.drew).mono ?_
                rintro e _ ⟨rfl, rfl⟩
                refine hK.out _ _ (stE.out.cells) (fun hHeldN => ?_)
                clear hHeld hK K
                have hHeld := hHeldN
                clear hHeldN
                try simp only [Act.put, List.setIfInBounds_toArray, List.set_cons_zero, List.set_cons_succ]
                refine held_take (i := 10) (v := ?_) rfl (by kernel_rfl) (by kernel_rfl) (by kernel_rfl) (fun _ _ _ h => h) (Or.inl ⟨by rfl, ?_⟩) (by assumption) ?_
                rotate_left
                · intro w hSw; (try dsimp only at hSw); go_simp; try with_reducible rfl
                try simp only [Act.put, List.setIfInBounds_toArray, List.set_cons_zero, List.set_cons_succ]
                refine wpAnyH_done (by kernel_rfl) ?_ _
                clear hHeld
                go_wp2_with fail
                go_roundw
                case rel => exact ⟨i + 1, a', A2, C2, by omega, by omega, by go_num, rfl, ha', hAC2.out, stE.out.drew.mono (by omega)⟩
                case measure => simp [intOf]; omega
            · have k6 : (kk == 6) = false := by simp [hk6]
              have stE := st
              have dE : ((A.length : Int) != (C.length : Int)) = false := by rw [hAC.out]; simp
              have dE' : ((A.length : Int) == (C.length : Int)) = true := by rw [hAC.out]; simp
              go_wp2_with fail
              refine wp_region_held_drew (S := (fun w' => w'.cell? ⟨l1.ob, 0, none⟩ = some (.pointer (some ⟨l1.b, 0, none⟩)) ∧ w'.cell? ⟨l2.ob, 0, none⟩ = some (.pointer (some ⟨l2.b, 0, none⟩)))) (by kernel_rfl) (stE.out.cells) (fun hHeld => ?_)
              refine held_take (i := 0) (v := ?_) rfl (by kernel_rfl) (by kernel_rfl) (by kernel_rfl) (fun _ _ _ h => h) (Or.inl ⟨by rfl, ?_⟩) (by assumption) ?_
              rotate_left
              · intro w hSw; (try dsimp only at hSw); go_simp; try with_reducible rfl
              try simp only [Act.put, List.setIfInBounds_toArray, List.set_cons_zero, List.set_cons_succ]
              refine held_take (i := 1) (v := ?_) rfl (by kernel_rfl) (by kernel_rfl) (by kernel_rfl) (fun _ _ _ h => h) (Or.inl ⟨by rfl, ?_⟩) (by assumption) ?_
              rotate_left
              · intro w hSw; (try dsimp only at hSw); go_simp; try with_reducible rfl
              try simp only [Act.put, List.setIfInBounds_toArray, List.set_cons_zero, List.set_cons_succ]
              refine held_take (i := 2) (v := ?_) rfl (by kernel_rfl) (by kernel_rfl) (by kernel_rfl) (fun _ _ _ h => h) (Or.inl ⟨by rfl, ?_⟩) (by assumption) ?_
              rotate_left
              · intro w hSw; (try dsimp only at hSw); go_simp; try with_reducible rfl
              try simp only [Act.put, List.setIfInBounds_toArray, List.set_cons_zero, List.set_cons_succ]
              refine held_take (i := 3) (v := ?_) rfl (by kernel_rfl) (by kernel_rfl) (by kernel_rfl) (fun _ _ _ h => h) (Or.inl ⟨by rfl, ?_⟩) (by assumption) ?_
              rotate_left
              · intro w hSw; (try dsimp only at hSw); go_simp; try with_reducible rfl
              try simp only [Act.put, List.setIfInBounds_toArray, List.set_cons_zero, List.set_cons_succ]
              refine held_take (i := 5) (v := ?_) rfl (by kernel_rfl) (by kernel_rfl) (by kernel_rfl) (fun _ _ _ h => h) (Or.inl ⟨by rfl, ?_⟩) (by assumption) ?_
              rotate_left
              · intro w hSw; (try dsimp only at hSw); go_simp; try with_reducible rfl
              try simp only [Act.put, List.setIfInBounds_toArray, List.set_cons_zero, List.set_cons_succ]
              refine held_take (i := 6) (v := ?_) rfl (by kernel_rfl) (by kernel_rfl) (by kernel_rfl) (fun _ _ _ h => h) (Or.inl ⟨by rfl, ?_⟩) (by assumption) ?_
              rotate_left
              · intro w hSw; (try dsimp only at hSw); go_simp; try with_reducible rfl
              try simp only [Act.put, List.setIfInBounds_toArray, List.set_cons_zero, List.set_cons_succ]
              refine held_take (i := 7) (v := ?_) rfl (by kernel_rfl) (by kernel_rfl) (by kernel_rfl) (fun _ _ _ h => h) (Or.inl ⟨by rfl, ?_⟩) (by assumption) ?_
              rotate_left
              · intro w hSw; (try dsimp only at hSw); go_simp; try with_reducible rfl
              try simp only [Act.put, List.setIfInBounds_toArray, List.set_cons_zero, List.set_cons_succ]
              refine held_take (i := 8) (v := ?_) rfl (by kernel_rfl) (by kernel_rfl) (by kernel_rfl) (fun _ _ _ h => h) (Or.inl ⟨by rfl, ?_⟩) (by assumption) ?_
              rotate_left
              · intro w hSw; (try dsimp only at hSw); go_simp; try with_reducible rfl
              try simp only [Act.put, List.setIfInBounds_toArray, List.set_cons_zero, List.set_cons_succ]
              refine held_ready (i := 4) rfl (by kernel_rfl) (fun K hK => ?_)
              go_simp
              refine (charge_one stE.out.drew).mono ?_
              rintro e _ ⟨rfl, rfl⟩
              refine hK.out _ _ (stE.out.cells) (fun hHeldN => ?_)
              clear hHeld hK K
              have hHeld := hHeldN
              clear hHeldN
              try simp only [Act.put, List.setIfInBounds_toArray, List.set_cons_zero, List.set_cons_succ]
              refine held_ready (i := 9) rfl (by kernel_rfl) (fun K hK => ?_)
              go_simp
              refine (charge_two stE.out.drew).mono ?_
              rintro e _ ⟨rfl, rfl⟩
              refine hK.out _ _ (stE.out.cells) (fun hHeldN => ?_)
              clear hHeld hK K
              have hHeld := hHeldN
              clear hHeldN
              try simp only [Act.put, List.setIfInBounds_toArray, List.set_cons_zero, List.set_cons_succ]
              refine held_take (i := 10) (v := ?_) rfl (by kernel_rfl) (by kernel_rfl) (by kernel_rfl) (fun _ _ _ h => h) (Or.inl ⟨by rfl, ?_⟩) (by assumption) ?_
              rotate_left
              · intro w hSw; (try dsimp only at hSw); go_simp; try with_reducible rfl
              try simp only [Act.put, List.setIfInBounds_toArray, List.set_cons_zero, List.set_cons_succ]
              refine wpAnyH_done (by kernel_rfl) ?_ _
              clear hHeld
              go_wp2_with fail
              go_roundw
              case rel => exact ⟨i + 1, a', A, C, by omega, by omega, by go_num, rfl, ha', hAC.out, stE.out.drew.mono (by omega)⟩
              case measure => simp [intOf]; omega
    · have dd : (decide ((i : Int) < (len : Int)) = false ∧ ¬ i < len) ∨ (decide ((i : Int) < (len : Int)) = true ∧ decide ((i : Int) < 80) = false ∧ ¬ i < 80 ∧ i < len) := by
        by_cases h : i < len
        · exact .inr ⟨decide_eq_true (by omega), decide_eq_false (by omega), by omega, h⟩
        · exact .inl ⟨decide_eq_false (by omega), h⟩
      have B := st.out.low
      have al := alive_any17 wr st.out.tab
      clear hlt
      replace B := Lib.hid B
      replace al := Lib.hid al
      replace st := Lib.hid st
      rcases dd with ⟨d1, d1n⟩ | ⟨d1, d2, d2n, d1n⟩
      · go_wp2_with fail
        refine al.out.mono ?_
        rintro e w3 ⟨rfl, B3⟩
        go_wp2_with fail
        go_ret
        exact ⟨rfl, B.out.trans (B3.mono B.out.size)⟩
      · go_wp2_with fail
        refine al.out.mono ?_
        rintro e w3 ⟨rfl, B3⟩
        go_wp2_with fail
        go_ret
        exact ⟨rfl, B.out.trans (B3.mono B.out.size)⟩
end Go.Proofs.YtjhfoddhpmmjoaaDoor
