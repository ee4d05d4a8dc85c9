/-
  Layer 7's law: what Wrap and Unwrap say of any text; alive. Conditions: a key of 32 bytes.
-/
import Derived.Test.YtnadgjlmlnhknaaWrapUn
import Derived.Test.YtnadgjlmlnhknaaWrapFast
import Derived.Test.YtnadgjlmlnhknaaLaw05
namespace Go.Proofs.Ytnadgjlmlnhknaa
open Go.RowKit

set_option maxRecDepth 100000 in
theorem wrap_bad (w : World) (key : List Nat) (ao : Option Addr) (m cap : Nat) (hm : m < 9223372036854775808) (hf : fitsB m 0 = false) :
    Calls Try.prog 35 #[.agg (u8s key), .slice ao m cap] w fun e w' => e = .returned (.tuple #[.slice none 0 0, .int .i64 3]) ∧ Below w.heap.size w w' := by
  have cf := Lib.hid (fits_any (w.alloc (.cells (u8s key) 23)) m 0 hm (by decide))
  rw [hf] at cf
  have B0 : Below w.heap.size w (w.alloc (.cells (u8s key) 23)) := (Below.refl _ _).alloc (Nat.le_refl _) _
  simp only [Int.natCast_zero] at cf
  replace B0 := Lib.hid B0
  replace hf := Lib.hid hf
  go_enter Try.func35, Try.ntmps35
  go_wp2_with fail
  go_step3
  go_wp2_with fail
  refine cf.out.mono ?_
  rintro e w0 ⟨rfl, rfl⟩
  go_wp2_with fail
  rw [Exit.noGoto_ret]
  go_ret2
  exact ⟨rfl, B0.out⟩
set_option maxRecDepth 100000 in
theorem unwrap_bad (w : World) (key : List Nat) (ao : Option Addr) (m cap : Nat) (hm : m < 9223372036854775808) (hf : fitsB m 1 = false) :
    Calls Try.prog 37 #[.agg (u8s key), .slice ao m cap] w fun e w' => e = .returned (.tuple #[.slice none 0 0, .int .i64 3]) ∧ Below w.heap.size w w' := by
  have cf := Lib.hid (fits_any (w.alloc (.cells (u8s key) 23)) m 1 hm (by decide))
  rw [hf] at cf
  have B0 : Below w.heap.size w (w.alloc (.cells (u8s key) 23)) := (Below.refl _ _).alloc (Nat.le_refl _) _
  simp only [show ((1 : Nat) : Int) = 1 from rfl] at cf
  replace B0 := Lib.hid B0
  replace hf := Lib.hid hf
  go_enter Try.func37, Try.ntmps37
  go_wp2_with fail
  refine cf.out.mono ?_
  rintro e w0 ⟨rfl, rfl⟩
  go_wp2_with fail
  go_ret2
  exact ⟨rfl, B0.out⟩
def wrapE (t : List Nat) : Int := if fitsB t.length 0 = true then 0 else 3
def unwE (V : Nat → Nat) (t : List Nat) : Int := if fitsB t.length 1 = true then (if (unL V t).take 8 = List.replicate 8 166 then 0 else 20) else 3
theorem wrap_st (w : World) (key : List Nat) (hk : key.length = 32) (hs : ∀ x ∈ key, x < 256) (v : Value) (t : List Nat) (ht : TextAt w v t) (hl : t.length < 9223372036854775808) :
    Calls Try.prog 35 #[.agg (u8s key), v] w fun e w' => ∃ x, e = .returned (.tuple #[x, .int .i64 (wrapE t)]) ∧ TextAt w' x (if fitsB t.length 0 = true then wrapL (byt (wordsOf (byt key))) t else []) ∧ Below w.heap.size w w' := by
  obtain ⟨ao, cap, rfl, _⟩ := ht.ex
  unfold wrapE
  cases hf : fitsB t.length 0 with
  | true =>
    refine (wrap_any w key hk hs ao t _ cap rfl ht hf).mono ?_
    rintro e w' ⟨x, rfl, h1, h2⟩
    exact ⟨x, rfl, h1, h2⟩
  | false =>
    refine (wrap_bad w key ao _ cap hl hf).mono ?_
    rintro e w' ⟨rfl, h2⟩
    exact ⟨_, rfl, TextAt.nil _, h2⟩
theorem unwrap_st (w : World) (key : List Nat) (hk : key.length = 32) (hs : ∀ x ∈ key, x < 256) (v : Value) (t : List Nat) (ht : TextAt w v t) (hl : t.length < 9223372036854775808) :
    Calls Try.prog 37 #[.agg (u8s key), v] w fun e w' => ∃ x, e = .returned (.tuple #[x, .int .i64 (unwE (byt (wordsOf (byt key))) t)]) ∧ TextAt w' x (if unwE (byt (wordsOf (byt key))) t = 0 then (unL (byt (wordsOf (byt key))) t).drop 8 else []) ∧ Below w.heap.size w w' := by
  obtain ⟨ao, cap, rfl, _⟩ := ht.ex
  unfold unwE
  cases hf : fitsB t.length 1 with
  | true =>
    refine (unwrap_any w key hk hs ao t _ cap rfl ht hf).mono ?_
    rintro e w' ⟨⟨x, rfl, h1, h2⟩, h3⟩
    refine ⟨x, rfl, ?_, h3⟩
    by_cases h : (unL (byt (wordsOf (byt key))) t).take 8 = List.replicate 8 166
    · rw [if_pos rfl, if_pos h, if_pos rfl]; exact h1 h
    · rw [if_pos rfl, if_neg h, if_neg (by decide), h2 h]; exact TextAt.nil _
  | false =>
    refine (unwrap_bad w key ao _ cap hl hf).mono ?_
    rintro e w' ⟨rfl, h2⟩
    exact ⟨_, rfl, TextAt.nil _, h2⟩

theorem wp_make {w : World} {o : Oper} {a : Act} {K : Act → World → Prop} {Q : Exit → Act → World → Prop} (x y : Operand) (ho : o.op = .makeSlice 29 x y) (l : Nat) (hl : l ≤ 16777216) (hx : a.eval x = .int .i64 (l : Int)) (hy : a.eval y = .int .i64 (l : Int))
    (hK : K (a.put o.dst (.slice (some ⟨w.heap.size, 0, none⟩) l l)) (w.alloc (.cells (u8s (List.replicate l 0)) 5))) : o.wp Try.prog a w K Q := by
  unfold Oper.wp execOp
  simp only [ho, hx, hy, Sem.run_bind, Sem.run_pure, run_make_u8 l l (Nat.le_refl _) hl, Result.andThen_ok]
  exact hK
theorem row_text {w : World} {b ty : Nat} {t : List Nat} (h : RowB w b ty t) (hs : ∀ x ∈ t, x < 256) {n : Nat} (hn : t.length = n) : TextAt w (.slice (some ⟨b, 0, none⟩) n n) t := by
  subst hn
  refine ⟨some ⟨b, 0, none⟩, t.length, rfl, Nat.le_refl _, fun e => by simp at e, fun i hi => ⟨byt_lt hs i, b, 0, rfl, ?_⟩⟩
  rw [Nat.zero_add]
  exact h.cell (i := i) (x := byt t i) (by simp [byt, List.getD, hi])
def fixKey : List Nat := tabN 32 (fun i => i)
theorem fix_words : ∀ q, q < 240 → byt (wordsOf (byt fixKey)) q = bt fixW q :=
  wordsP_of (key := pk (fun i => i) 32) (f := byt fixKey) (fun q hq => by
    rw [bt_pk 32 (fun i hi => by omega) q hq]
    simp [fixKey, byt, List.getD, tabN, hq]) rfl
theorem fixT_lt : ∀ x ∈ fixT, x < 256 := by decide
theorem fix_first : ∀ i, i < 4 → byt (wrapL (byt (wordsOf (byt fixKey))) fixT) i = bt (100 + 256 * (232 + 256 * (195 + 256 * 249))) i := fun i hi => by
  have e : byt (wrapL (byt (wordsOf (byt fixKey))) fixT) i = wrapTo (byt (wordsOf (byt fixKey))) (markF fixT) 2 12 i := by
    unfold wrapL
    rw [byt_bytesOf _ (by show i < 24; omega)]
    rfl
  have h := wrapP_eq (S := markF fixT) (s := fixS) fix_words (fun i hi => by
    show markF fixT i = bt (pk (markF fixT) 24) i
    rw [bt_pk 24 (fun j _ => mark_lt fixT_lt j) i hi]) 12 i (by omega)
  have hf := fix_wrap
  rw [frc_eq, frc_eq] at hf
  rw [e, h]
  exact bt_low hi hf
theorem fix_not : ¬ (unL (byt (wordsOf (byt fixKey))) (List.replicate 24 0)).take 8 = List.replicate 8 166 := fun h => by
  have hu : unL (byt (wordsOf (byt fixKey))) (List.replicate 24 0) = bytesOf (unTo (byt (wordsOf (byt fixKey))) (byt (List.replicate 24 0)) 2 12 12) 24 := by
    unfold unL
    rw [List.length_replicate]
  rw [hu] at h
  have h0 := (take_marks (F := unTo (byt (wordsOf (byt fixKey))) (byt (List.replicate 24 0)) 2 12 12) (m := 24) (by decide)).1 h 0 (by decide)
  have h1 := unP_eq (S := byt (List.replicate 24 0)) (s := 0) fix_words (fun i hi => by
    have h2 : byt (List.replicate 24 0) i = 0 := by
      unfold byt
      rw [List.getD_eq_getElem?_getD, List.getElem?_replicate, if_pos hi]; rfl
    rw [h2]
    unfold bt
    rw [Nat.zero_div, Nat.zero_mod]) 12 0 (by decide)
  have hf := fix_un
  rw [frc_eq] at hf
  rw [h1] at h0
  unfold bt at h0
  rw [Nat.pow_zero, Nat.div_one] at h0
  rw [h0] at hf
  exact absurd hf (by decide)

/-- What stays while alive asks. -/
structure AskW (w : World) (g o gb : Nat) (v : Value) : Prop where
  p : TextAt w v fixT
  b : RowB w gb 24 fixT
  c0 : w.cell? ⟨g, o, none⟩ = some (.int .u8 100)
  c1 : w.cell? ⟨g, o + 1, none⟩ = some (.int .u8 232)
  c2 : w.cell? ⟨g, o + 2, none⟩ = some (.int .u8 195)
  c3 : w.cell? ⟨g, o + 3, none⟩ = some (.int .u8 249)

set_option maxHeartbeats 4000000 in
set_option maxRecDepth 100000 in
theorem alive07 (w : World) : Calls Try.prog 34 #[] w fun e w' => e = .returned (.bool true) ∧ Below w.heap.size w w' := by
  have s0 := FillSt.begin w
  replace s0 := Lib.hid s0
  go_enter Try.func34, Try.ntmps34
  go_wp2_with fail
  go_loopw [3] (fun iv wr => ∃ k : Nat, k ≤ 32 ∧ iv = .int .i64 k ∧ FillSt w wr (tabN 32 (upTo k (fun i => i) (fun _ => 0))) (tabN 16 (upTo 0 (fun i => 17 * i) (fun _ => 0)))) (fun iv _ => 32 - (intOf iv).toNat)
  case atStart => exact ⟨0, by decide, rfl, s0.out⟩
  case round =>
    clear s0
    obtain ⟨k, hk, rfl, st⟩ := hrel
    by_cases hlt : k < 32
    · have f1 : IntKind.u8.wrap (k : Int) = (k : Int) := IntWalk.u8_in _ (by omega)
      have c0 := st.k.cell (tabN_get (upTo k (fun i => i) (fun _ => 0)) hlt)
      have fr := st.k.frozen k
      have ns := st.setK k k
      rw [show (tabN 32 (upTo k (fun i => i) (fun _ => 0))).set k k = tabN 32 (upTo (k + 1) (fun i => i) (fun _ => 0)) from tabN_up (fun i => i) (fun _ => 0)] at ns
      generalize upTo k (fun i => i) (fun _ => 0) k = old at *
      replace st := Lib.hid st
      replace ns := Lib.hid ns
      go_wp2_with fail
      go_roundw
      case rel => exact ⟨k + 1, by omega, by go_num, ns.out⟩
      case measure => simp [intOf]; omega
    · obtain rfl : k = 32 := by omega
      rw [tabN_all] at st
      simp only [show ((32 : Nat) : Int) = 32 from rfl]
      replace st := Lib.hid st
      go_wp2_with fail
      go_loopw [4] (fun iv wr => ∃ k : Nat, k ≤ 16 ∧ iv = .int .i64 k ∧ FillSt w wr (tabN 32 (fun i => i)) (tabN 16 (upTo k (fun i => 17 * i) (fun _ => 0)))) (fun iv _ => 16 - (intOf iv).toNat)
      case atStart => exact ⟨0, by decide, rfl, st.out⟩
      case round =>
        clear st
        obtain ⟨k, hk, rfl, st⟩ := hrel
        by_cases hlt : k < 16
        · have f0 : IntKind.i64.wrap (17 * (k : Int)) = 17 * (k : Int) := IntWalk.i64_in _ (by omega)
          have f1 : IntKind.u8.wrap (17 * (k : Int)) = ((17 * k : Nat) : Int) := by rw [IntWalk.u8_in _ (by omega)]; omega
          have c0 := st.b.cell (tabN_get (upTo k (fun i => 17 * i) (fun _ => 0)) hlt)
          have fr := st.b.frozen k
          have ns := st.setB k (17 * k)
          rw [show (tabN 16 (upTo k (fun i => 17 * i) (fun _ => 0))).set k (17 * k) = tabN 16 (upTo (k + 1) (fun i => 17 * i) (fun _ => 0)) from tabN_up (fun i => 17 * i) (fun _ => 0)] at ns
          generalize upTo k (fun i => 17 * i) (fun _ => 0) k = old at *
          replace st := Lib.hid st
          replace ns := Lib.hid ns
          go_wp2_with fail
          go_roundw
          case rel => exact ⟨k + 1, by omega, by go_num, ns.out⟩
          case measure => simp [intOf]; omega
        · obtain rfl : k = 16 := by omega
          rw [tabN_all] at st
          simp only [show ((16 : Nat) : Int) = 16 from rfl]
          have st' : FillSt w wr fixKey fixT := st
          have lk : fixKey.length = 32 := length_tabN _ _
          have sk : ∀ x ∈ fixKey, x < 256 := by decide
          have lt16 : fixT.length = 16 := rfl
          have i32 := info32 lk
          have tb := row_text st'.b fixT_lt lt16
          have hKey : RowB wr.drew w.heap.size 23 fixKey := st'.k
          have tbd : TextAt wr.drew (.slice (some ⟨w.heap.size + 1, 0, none⟩) 16 16) fixT := tb.drew
          have low0 : Below w.heap.size w wr.drew := st'.low.drew
          have sT : ∀ w', RowB w' w.heap.size 23 fixKey → w'.heap[w.heap.size]? = some (.cells (u8s fixKey) 23 (0, 0)) := fun w' h => h
          have hB : RowB wr (w.heap.size + 1) 24 fixT := st'.b
          have first := fix_first
          have nun := fix_not
          have uw := unL_wrapL (W := byt (wordsOf (byt fixKey))) (words_lt (byt_lt sk) 60) fixT_lt rfl (by decide)
          have lw : (wrapL (byt (wordsOf (byt fixKey))) fixT).length = 24 := length_wrapL _ _
          have cw := Lib.hid (wrap_any wr.drew fixKey lk sk (some ⟨w.heap.size + 1, 0, none⟩) fixT 16 16 lt16 tbd (by decide))
          have cu := Lib.hid (fun (wx : World) (ao : Option Addr) (c : Nat) (hx : TextAt wx (.slice ao 24 c) (wrapL (byt (wordsOf (byt fixKey))) fixT)) => unwrap_any wx fixKey lk sk ao _ 24 c lw hx (by decide))
          have cz := Lib.hid (fun (wx : World) (b : Nat) (hx : TextAt wx (.slice (some ⟨b, 0, none⟩) 24 24) (List.replicate 24 0)) => unwrap_any wx fixKey lk sk (some ⟨b, 0, none⟩) _ 24 24 (List.length_replicate ..) hx (by decide))
          generalize hR : wrapL (byt (wordsOf (byt fixKey))) fixT = R at *
          generalize hU : unL (byt (wordsOf (byt fixKey))) (List.replicate 24 0) = U at *
          generalize unL (byt (wordsOf (byt fixKey))) R = UR at *
          subst uw
          clear hR hU st
          replace st' := Lib.hid st'
          replace sk := Lib.hid sk
          replace lt16 := Lib.hid lt16
          replace tb := Lib.hid tb
          replace hKey := Lib.hid hKey
          replace tbd := Lib.hid tbd
          replace low0 := Lib.hid low0
          replace sT := Lib.hid sT
          replace hB := Lib.hid hB
          replace first := Lib.hid first
          replace nun := Lib.hid nun
          replace lw := Lib.hid lw
          go_wp2_with fail
          refine wp_region_held_drew (S := (fun w' => RowB w' w.heap.size 23 fixKey)) (by kernel_rfl) (hKey.out) (fun hHeld => ?_)
          refine held_take (i := 0) (v := _) rfl (by kernel_rfl) (by kernel_rfl) (by kernel_rfl) (fun _ _ _ h => h) (yieldsIf_row (by rfl) rfl rfl Try.underlying23 i32 sT.out) (by assumption) ?_
          try simp only [Act.put, List.setIfInBounds_toArray, List.set_cons_zero, List.set_cons_succ]
          refine held_take (i := 1) (v := ?_) rfl (by kernel_rfl) (by kernel_rfl) (by kernel_rfl) (fun _ _ _ h => h) (Or.inl ⟨by rfl, ?_⟩) (by assumption) ?_
          rotate_left
          · intro w hSw; (try dsimp only at hSw); go_simp; try with_reducible rfl
          try simp only [Act.put, List.setIfInBounds_toArray, List.set_cons_zero, List.set_cons_succ]
          refine held_ready (i := 2) rfl (by kernel_rfl) (fun K hK => ?_)
          go_simp
          refine cw.out.mono ?_
          rintro e w1 ⟨v5, rfl, t5, B1⟩
          have K1 : RowB w1 w.heap.size 23 fixKey := RowB.below hKey.out B1 hKey.out.lt
          have R1 : RowB w1 (w.heap.size + 1) 24 fixT := RowB.below (show RowB wr.drew _ _ _ from hB.out) B1 hB.out.lt
          have low1 := low0.out.trans (B1.mono low0.out.size)
          obtain ⟨a5, c5, rfl, hc5, _, by5⟩ := t5.ex
          rw [lw.out] at hc5 by5 t5 ⊢
          obtain ⟨_, g, o, ea, _⟩ := by5 0 (by decide)
          have cells : ∀ i, i < 4 → w1.cell? ⟨g, o + i, none⟩ = some (.int .u8 (bt (100 + 256 * (232 + 256 * (195 + 256 * 249))) i : Nat)) := fun i hi => by
            obtain ⟨_, g', o', ea', h1⟩ := by5 i (by omega)
            rw [ea] at ea'
            cases ea'
            rw [h1, first.out i hi]
          subst ea
          clear cw
          replace K1 := Lib.hid K1
          replace R1 := Lib.hid R1
          replace low1 := Lib.hid low1
          replace t5 := Lib.hid t5
          replace by5 := Lib.hid by5
          replace cells := Lib.hid cells
          replace hc5 := Lib.hid hc5
          refine hK.out _ _ (K1.out) (fun hHeldN => ?_)
          clear hHeld hK K
          have hHeld := hHeldN
          clear hHeldN
          try simp only [Act.put, List.setIfInBounds_toArray, List.set_cons_zero, List.set_cons_succ]
          refine held_take (i := 3) (v := ?_) rfl (by kernel_rfl) (by kernel_rfl) (by kernel_rfl) (fun _ _ _ h => h) (Or.inl ⟨by rfl, ?_⟩) (by assumption) ?_
          rotate_left
          · intro w hSw; (try dsimp only at hSw); go_simp; try with_reducible rfl
          try simp only [Act.put, List.setIfInBounds_toArray, List.set_cons_zero, List.set_cons_succ]
          refine held_take (i := 4) (v := ?_) rfl (by kernel_rfl) (by kernel_rfl) (by kernel_rfl) (fun _ _ _ h => h) (Or.inl ⟨by rfl, ?_⟩) (by assumption) ?_
          rotate_left
          · intro w hSw; (try dsimp only at hSw); go_simp; try with_reducible rfl
          try simp only [Act.put, List.setIfInBounds_toArray, List.set_cons_zero, List.set_cons_succ]
          refine held_take (i := 5) (v := ?_) rfl (by kernel_rfl) (by kernel_rfl) (by kernel_rfl) (fun _ _ _ h => h) (Or.inl ⟨by rfl, ?_⟩) (by assumption) ?_
          rotate_left
          · intro w hSw; (try dsimp only at hSw); go_simp; try with_reducible rfl
          try simp only [Act.put, List.setIfInBounds_toArray, List.set_cons_zero, List.set_cons_succ]
          refine held_take (i := 6) (v := ?_) rfl (by kernel_rfl) (by kernel_rfl) (by kernel_rfl) (fun _ _ _ h => h) (Or.inl ⟨by rfl, ?_⟩) (by assumption) ?_
          rotate_left
          · intro w hSw; (try dsimp only at hSw); go_simp; try with_reducible rfl
          try simp only [Act.put, List.setIfInBounds_toArray, List.set_cons_zero, List.set_cons_succ]
          refine held_take (i := 7) (v := ?_) rfl (by kernel_rfl) (by kernel_rfl) (by kernel_rfl) (fun _ _ _ h => h) (Or.inl ⟨by rfl, ?_⟩) (by assumption) ?_
          rotate_left
          · intro w hSw; (try dsimp only at hSw); go_simp; try with_reducible rfl
          try simp only [Act.put, List.setIfInBounds_toArray, List.set_cons_zero, List.set_cons_succ]
          refine wpAnyH_done (by kernel_rfl) ?_ _
          clear hHeld
          go_wp2_with (refine wpList_load_b (by rfl) 23 (.tmp 1) rfl w.heap.size rfl 23 fixKey K1.out _ Try.underlying23 rfl i32 ?_)
          refine (cu.out w1 _ _ t5.out).mono ?_
          rintro e w2 ⟨⟨v7, rfl, t7, _⟩, B2⟩
          have hpos : (List.replicate 8 166 ++ fixT).take 8 = List.replicate 8 166 := rfl
          rw [if_pos hpos]
          have t7 : TextAt w2 v7 fixT := t7 hpos
          have K2 := RowB.below K1.out B2 K1.out.lt
          have R2 := RowB.below R1.out B2 R1.out.lt
          have low2 := low1.out.trans (B2.mono low1.out.size)
          have cells2 : ∀ i, i < 4 → w2.cell? ⟨g, o + i, none⟩ = some (.int .u8 (bt (100 + 256 * (232 + 256 * (195 + 256 * 249))) i : Nat)) := fun i hi => (B2.cell (block_lt_of_cell (cells.out i hi))).trans (cells.out i hi)
          have K2d : RowB w2.drew w.heap.size 23 fixKey := K2
          clear cu hpos
          replace t7 := Lib.hid t7
          replace K2 := Lib.hid K2
          replace K2d := Lib.hid K2d
          replace R2 := Lib.hid R2
          replace low2 := Lib.hid low2
          replace cells2 := Lib.hid cells2
          go_wp2_with fail
          refine wp_region_held_drew (S := (fun w' => RowB w' w.heap.size 23 fixKey)) (by kernel_rfl) (K2d.out) (fun hHeld => ?_)
          refine held_take (i := 0) (v := _) rfl (by kernel_rfl) (by kernel_rfl) (by kernel_rfl) (fun _ _ _ h => h) (yieldsIf_row (by rfl) rfl rfl Try.underlying23 i32 sT.out) (by assumption) ?_
          try simp only [Act.put, List.setIfInBounds_toArray, List.set_cons_zero, List.set_cons_succ]
          refine held_ready (i := 1) rfl (by kernel_rfl) (fun K hK => ?_)
          rw [if_pos (by rfl)]
          refine wp_make _ _ rfl 24 (by decide) rfl rfl ?_
          have Bm : Below w2.heap.size w2.drew (w2.drew.alloc (.cells (u8s (List.replicate 24 0)) 5)) := (Below.refl w2.drew.heap.size w2.drew).alloc (Nat.le_refl _) _
          have K3 := RowB.below K2d.out Bm K2d.out.lt
          have tz : TextAt (w2.drew.alloc (.cells (u8s (List.replicate 24 0)) 5)) (.slice (some ⟨w2.heap.size, 0, none⟩) 24 24) (List.replicate 24 0) := row_text (show RowB _ _ 5 _ from heap_alloc_new w2.drew _) (by decide) (List.length_replicate ..)
          have B2m : Below w2.heap.size w2 (w2.drew.alloc (.cells (u8s (List.replicate 24 0)) 5)) := ((Below.refl _ _).drew).alloc (Nat.le_refl _) _
          replace K3 := Lib.hid K3
          replace tz := Lib.hid tz
          replace Bm := Lib.hid Bm
          replace B2m := Lib.hid B2m
          refine hK.out _ _ (K3.out) (fun hHeldN => ?_)
          clear hHeld hK K
          have hHeld := hHeldN
          clear hHeldN
          try simp only [Act.put, List.setIfInBounds_toArray, List.set_cons_zero, List.set_cons_succ]
          generalize w2.drew.alloc (.cells (u8s (List.replicate 24 0)) 5) = w3 at *
          refine held_ready (i := 2) rfl (by kernel_rfl) (fun K hK => ?_)
          go_simp
          refine (cz.out w3 _ tz.out).mono ?_
          rintro e w4 ⟨⟨v9, rfl, _, _⟩, B4⟩
          rw [if_neg nun.out]
          have K4 := RowB.below K3.out B4 K3.out.lt
          have B24 := B2m.out.trans (B4.mono B2m.out.size)
          clear cz
          replace B24 := Lib.hid B24
          replace K4 := Lib.hid K4
          refine hK.out _ _ (K4.out) (fun hHeldN => ?_)
          clear hHeld hK K
          have hHeld := hHeldN
          clear hHeldN
          try simp only [Act.put, List.setIfInBounds_toArray, List.set_cons_zero, List.set_cons_succ]
          refine held_take (i := 3) (v := ?_) rfl (by kernel_rfl) (by kernel_rfl) (by kernel_rfl) (fun _ _ _ h => h) (Or.inl ⟨by rfl, ?_⟩) (by assumption) ?_
          rotate_left
          · intro w hSw; (try dsimp only at hSw); go_simp; try with_reducible rfl
          try simp only [Act.put, List.setIfInBounds_toArray, List.set_cons_zero, List.set_cons_succ]
          refine held_take (i := 4) (v := ?_) rfl (by kernel_rfl) (by kernel_rfl) (by kernel_rfl) (fun _ _ _ h => h) (Or.inl ⟨by rfl, ?_⟩) (by assumption) ?_
          rotate_left
          · intro w hSw; (try dsimp only at hSw); go_simp; try with_reducible rfl
          try simp only [Act.put, List.setIfInBounds_toArray, List.set_cons_zero, List.set_cons_succ]
          refine held_take (i := 5) (v := ?_) rfl (by kernel_rfl) (by kernel_rfl) (by kernel_rfl) (fun _ _ _ h => h) (Or.inl ⟨by rfl, ?_⟩) (by assumption) ?_
          rotate_left
          · intro w hSw; (try dsimp only at hSw); go_simp; try with_reducible rfl
          try simp only [Act.put, List.setIfInBounds_toArray, List.set_cons_zero, List.set_cons_succ]
          refine held_take (i := 6) (v := ?_) rfl (by kernel_rfl) (by kernel_rfl) (by kernel_rfl) (fun _ _ _ h => h) (Or.inl ⟨by rfl, ?_⟩) (by assumption) ?_
          rotate_left
          · intro w hSw; (try dsimp only at hSw); go_simp; try with_reducible rfl
          try simp only [Act.put, List.setIfInBounds_toArray, List.set_cons_zero, List.set_cons_succ]
          refine held_take (i := 7) (v := ?_) rfl (by kernel_rfl) (by kernel_rfl) (by kernel_rfl) (fun _ _ _ h => h) (Or.inl ⟨by rfl, ?_⟩) (by assumption) ?_
          rotate_left
          · intro w hSw; (try dsimp only at hSw); go_simp; try with_reducible rfl
          try simp only [Act.put, List.setIfInBounds_toArray, List.set_cons_zero, List.set_cons_succ]
          refine wpAnyH_done (by kernel_rfl) ?_ _
          clear hHeld
          have A5 : AskW w4.drew g o (w.heap.size + 1) v7 := by
            have cc : ∀ i, i < 4 → w4.cell? ⟨g, o + i, none⟩ = some (.int .u8 (bt (100 + 256 * (232 + 256 * (195 + 256 * 249))) i : Nat)) := fun i hi => (B24.out.cell (block_lt_of_cell (cells2.out i hi))).trans (cells2.out i hi)
            exact ⟨(t7.out.below B24.out).drew, (show RowB w4 _ _ _ from RowB.below R2.out B24.out R2.out.lt), cc 0 (by decide), cc 1 (by decide), cc 2 (by decide), cc 3 (by decide)⟩
          have low5 : Below w.heap.size w w4.drew := (low2.out.trans (B24.out.mono low2.out.size)).drew
          have S7 : ∀ w', AskW w' g o (w.heap.size + 1) v7 → TextAt w' v7 fixT := fun w' h => h.p
          have Sb : ∀ w', AskW w' g o (w.heap.size + 1) v7 → TextAt w' (.slice (some ⟨w.heap.size + 1, 0, none⟩) 16 16) fixT := fun w' h => row_text h.b fixT_lt lt16.out
          have g0 : ∀ w', AskW w' g o (w.heap.size + 1) v7 → w'.cell? ⟨g, o, none⟩ = some (.int .u8 100) := fun w' h => h.c0
          have g1 : ∀ w', AskW w' g o (w.heap.size + 1) v7 → w'.cell? ⟨g, o + 1, none⟩ = some (.int .u8 232) := fun w' h => h.c1
          have g2 : ∀ w', AskW w' g o (w.heap.size + 1) v7 → w'.cell? ⟨g, o + 2, none⟩ = some (.int .u8 195) := fun w' h => h.c2
          have g3 : ∀ w', AskW w' g o (w.heap.size + 1) v7 → w'.cell? ⟨g, o + 3, none⟩ = some (.int .u8 249) := fun w' h => h.c3
          replace A5 := Lib.hid A5
          replace low5 := Lib.hid low5
          replace S7 := Lib.hid S7
          replace Sb := Lib.hid Sb
          replace K1 := Lib.hid K1
          replace R1 := Lib.hid R1
          replace low1 := Lib.hid low1
          replace t5 := Lib.hid t5
          replace by5 := Lib.hid by5
          replace cells := Lib.hid cells
          go_wp2_with fail
          refine wp_region_held_drew (S := (fun w' => AskW w' g o (w.heap.size + 1) v7)) (by kernel_rfl) (A5.out) (fun hHeld => ?_)
          refine held_take (i := 0) (v := ?_) rfl (by kernel_rfl) (by kernel_rfl) (by kernel_rfl) (fun _ _ _ h => h) (Or.inl ⟨by rfl, ?_⟩) (by assumption) ?_
          rotate_left
          · intro w hSw; (try dsimp only at hSw); go_simp; try with_reducible rfl
          try simp only [Act.put, List.setIfInBounds_toArray, List.set_cons_zero, List.set_cons_succ]
          refine held_take (i := 1) (v := ?_) rfl (by kernel_rfl) (by kernel_rfl) (by kernel_rfl) (fun _ _ _ h => h) (Or.inl ⟨by rfl, ?_⟩) (by assumption) ?_
          rotate_left
          · intro w hSw; (try dsimp only at hSw); go_simp; try with_reducible rfl
          try simp only [Act.put, List.setIfInBounds_toArray, List.set_cons_zero, List.set_cons_succ]
          refine held_take (i := 2) (v := ?_) rfl (by kernel_rfl) (by kernel_rfl) (by kernel_rfl) (fun _ _ _ h => h) (Or.inl ⟨by rfl, ?_⟩) (by assumption) ?_
          rotate_left
          · intro w hSw; (try dsimp only at hSw); go_simp; try with_reducible rfl
          try simp only [Act.put, List.setIfInBounds_toArray, List.set_cons_zero, List.set_cons_succ]
          refine held_take (i := 3) (v := ?_) rfl (by kernel_rfl) (by kernel_rfl) (by kernel_rfl) (fun _ _ _ h => h) (Or.inl ⟨by rfl, ?_⟩) (by assumption) ?_
          rotate_left
          · intro w hSw; (try dsimp only at hSw); go_simp; try with_reducible rfl
          try simp only [Act.put, List.setIfInBounds_toArray, List.set_cons_zero, List.set_cons_succ]
          refine held_take (i := 4) (v := ?_) rfl (by kernel_rfl) (by kernel_rfl) (by kernel_rfl) (fun _ _ _ h => h) (Or.inl ⟨by rfl, ?_⟩) (by assumption) ?_
          rotate_left
          · intro w hSw; (try dsimp only at hSw); go_simp; try with_reducible rfl
          try simp only [Act.put, List.setIfInBounds_toArray, List.set_cons_zero, List.set_cons_succ]
          refine held_take (i := 5) (v := ?_) rfl (by kernel_rfl) (by kernel_rfl) (by kernel_rfl) (fun _ _ _ h => h) (Or.inl ⟨by rfl, ?_⟩) (by assumption) ?_
          rotate_left
          · intro w hSw; (try dsimp only at hSw); go_simp; try with_reducible rfl
          try simp only [Act.put, List.setIfInBounds_toArray, List.set_cons_zero, List.set_cons_succ]
          refine held_take (i := 6) (v := ?_) rfl (by kernel_rfl) (by kernel_rfl) (by kernel_rfl) (fun _ _ _ h => h) (Or.inl ⟨by rfl, ?_⟩) (by assumption) ?_
          rotate_left
          · intro w hSw; (try dsimp only at hSw); go_simp; try with_reducible rfl
          try simp only [Act.put, List.setIfInBounds_toArray, List.set_cons_zero, List.set_cons_succ]
          refine held_take (i := 7) (v := ?_) rfl (by kernel_rfl) (by kernel_rfl) (by kernel_rfl) (fun _ _ _ h => h) (Or.inl ⟨by rfl, ?_⟩) (by assumption) ?_
          rotate_left
          · intro w hSw; (try dsimp only at hSw); go_simp; try with_reducible rfl
          try simp only [Act.put, List.setIfInBounds_toArray, List.set_cons_zero, List.set_cons_succ]
          refine held_take (i := 8) (v := ?_) rfl (by kernel_rfl) (by kernel_rfl) (by kernel_rfl) (fun _ _ _ h => h) (Or.inl ⟨by rfl, ?_⟩) (by assumption) ?_
          rotate_left
          · intro w hSw; (try dsimp only at hSw); go_simp; try with_reducible rfl
          try simp only [Act.put, List.setIfInBounds_toArray, List.set_cons_zero, List.set_cons_succ]
          refine held_take (i := 9) (v := ?_) rfl (by kernel_rfl) (by kernel_rfl) (by kernel_rfl) (fun _ _ _ h => h) (Or.inl ⟨by rfl, ?_⟩) (by assumption) ?_
          rotate_left
          · intro w hSw; (try dsimp only at hSw); go_simp; try with_reducible rfl
          try simp only [Act.put, List.setIfInBounds_toArray, List.set_cons_zero, List.set_cons_succ]
          refine held_take (i := 10) (v := ?_) rfl (by kernel_rfl) (by kernel_rfl) (by kernel_rfl) (fun _ _ _ h => h) (Or.inl ⟨by rfl, ?_⟩) (by assumption) ?_
          rotate_left
          · intro w hSw; (try dsimp only at hSw); go_simp; try with_reducible rfl
          try simp only [Act.put, List.setIfInBounds_toArray, List.set_cons_zero, List.set_cons_succ]
          refine held_take (i := 11) (v := ?_) rfl (by kernel_rfl) (by kernel_rfl) (by kernel_rfl) (fun _ _ _ h => h) (Or.inl ⟨by rfl, ?_⟩) (by assumption) ?_
          rotate_left
          · intro w hSw; (try dsimp only at hSw); go_simp; try with_reducible rfl
          try simp only [Act.put, List.setIfInBounds_toArray, List.set_cons_zero, List.set_cons_succ]
          refine held_take (i := 12) (v := ?_) rfl (by kernel_rfl) (by kernel_rfl) (by kernel_rfl) (fun _ _ _ h => h) (Or.inl ⟨by rfl, ?_⟩) (by assumption) ?_
          rotate_left
          · intro w hSw; (try dsimp only at hSw); go_simp; try with_reducible rfl
          try simp only [Act.put, List.setIfInBounds_toArray, List.set_cons_zero, List.set_cons_succ]
          refine held_take (i := 13) (v := ?_) rfl (by kernel_rfl) (by kernel_rfl) (by kernel_rfl) (fun _ _ _ h => h) (Or.inl ⟨by rfl, ?_⟩) (by assumption) ?_
          rotate_left
          · intro w hSw; (try dsimp only at hSw); go_simp; try with_reducible rfl
          try simp only [Act.put, List.setIfInBounds_toArray, List.set_cons_zero, List.set_cons_succ]
          refine held_take (i := 14) (v := ?_) rfl (by kernel_rfl) (by kernel_rfl) (by kernel_rfl) (fun _ _ _ h => h) (Or.inl ⟨by rfl, ?_⟩) (by assumption) ?_
          rotate_left
          · intro w hSw; (try dsimp only at hSw); go_simp; try with_reducible rfl
          try simp only [Act.put, List.setIfInBounds_toArray, List.set_cons_zero, List.set_cons_succ]
          refine held_take (i := 15) (v := ?_) rfl (by kernel_rfl) (by kernel_rfl) (by kernel_rfl) (fun _ _ _ h => h) (Or.inl ⟨by rfl, ?_⟩) (by assumption) ?_
          rotate_left
          · intro w hSw; (try dsimp only at hSw); go_simp; try with_reducible rfl
          try simp only [Act.put, List.setIfInBounds_toArray, List.set_cons_zero, List.set_cons_succ]
          refine held_take (i := 16) (v := ?_) rfl (by kernel_rfl) (by kernel_rfl) (by kernel_rfl) (fun _ _ _ h => h) (Or.inl ⟨by rfl, ?_⟩) (by assumption) ?_
          rotate_left
          · intro w hSw; (try dsimp only at hSw); go_simp; try with_reducible rfl
          try simp only [Act.put, List.setIfInBounds_toArray, List.set_cons_zero, List.set_cons_succ]
          refine held_take (i := 17) (v := ?_) rfl (by kernel_rfl) (by kernel_rfl) (by kernel_rfl) (fun _ _ _ h => h) (Or.inl ⟨by rfl, ?_⟩) (by assumption) ?_
          rotate_left
          · intro w hSw; (try dsimp only at hSw); go_simp; try with_reducible rfl
          try simp only [Act.put, List.setIfInBounds_toArray, List.set_cons_zero, List.set_cons_succ]
          refine held_take (i := 18) (v := ?_) rfl (by kernel_rfl) (by kernel_rfl) (by kernel_rfl) (fun _ _ _ h => h) (Or.inl ⟨by rfl, ?_⟩) (by assumption) ?_
          rotate_left
          · intro w hSw; (try dsimp only at hSw); go_simp; try with_reducible rfl
          try simp only [Act.put, List.setIfInBounds_toArray, List.set_cons_zero, List.set_cons_succ]
          refine held_take (i := 19) (v := ?_) rfl (by kernel_rfl) (by kernel_rfl) (by kernel_rfl) (fun _ _ _ h => h) (Or.inl ⟨by rfl, ?_⟩) (by assumption) ?_
          rotate_left
          · intro w hSw; (try dsimp only at hSw); go_simp; try with_reducible rfl
          try simp only [Act.put, List.setIfInBounds_toArray, List.set_cons_zero, List.set_cons_succ]
          refine held_take (i := 20) (v := ?_) rfl (by kernel_rfl) (by kernel_rfl) (by kernel_rfl) (fun _ _ _ h => h) (Or.inl ⟨by rfl, ?_⟩) (by assumption) ?_
          rotate_left
          · intro w hSw; (try dsimp only at hSw); go_simp; try with_reducible rfl
          try simp only [Act.put, List.setIfInBounds_toArray, List.set_cons_zero, List.set_cons_succ]
          refine held_take (i := 21) (v := ?_) rfl (by kernel_rfl) (by kernel_rfl) (by kernel_rfl) (fun _ _ _ h => h) (Or.inl ⟨by rfl, ?_⟩) (by assumption) ?_
          rotate_left
          · intro w hSw; (try dsimp only at hSw); go_simp; try with_reducible rfl
          try simp only [Act.put, List.setIfInBounds_toArray, List.set_cons_zero, List.set_cons_succ]
          refine held_take (i := 22) (v := ?_) rfl (by kernel_rfl) (by kernel_rfl) (by kernel_rfl) (fun _ _ _ h => h) (Or.inl ⟨by rfl, ?_⟩) (by assumption) ?_
          rotate_left
          · intro w hSw; (try dsimp only at hSw); go_simp; try with_reducible rfl
          try simp only [Act.put, List.setIfInBounds_toArray, List.set_cons_zero, List.set_cons_succ]
          refine held_take (i := 23) (v := ?_) rfl (by kernel_rfl) (by kernel_rfl) (by kernel_rfl) (fun _ _ _ h => h) (Or.inl ⟨by rfl, ?_⟩) (by assumption) ?_
          rotate_left
          · intro w hSw; (try dsimp only at hSw); go_simp; try with_reducible rfl
          try simp only [Act.put, List.setIfInBounds_toArray, List.set_cons_zero, List.set_cons_succ]
          refine held_take (i := 24) (v := ?_) rfl (by kernel_rfl) (by kernel_rfl) (by kernel_rfl) (fun _ _ _ h => h) (Or.inl ⟨by rfl, ?_⟩) (by assumption) ?_
          rotate_left
          · intro w hSw; (try dsimp only at hSw); go_simp; try with_reducible rfl
          try simp only [Act.put, List.setIfInBounds_toArray, List.set_cons_zero, List.set_cons_succ]
          refine held_take (i := 25) (v := ?_) rfl (by kernel_rfl) (by kernel_rfl) (by kernel_rfl) (fun _ _ _ h => h) (Or.inl ⟨by rfl, ?_⟩) (by assumption) ?_
          rotate_left
          · intro w hSw; (try dsimp only at hSw); go_simp; try with_reducible rfl
          try simp only [Act.put, List.setIfInBounds_toArray, List.set_cons_zero, List.set_cons_succ]
          refine held_take (i := 26) (v := ?_) rfl (by kernel_rfl) (by kernel_rfl) (by kernel_rfl) (fun _ _ _ h => h) (Or.inl ⟨by rfl, ?_⟩) (by assumption) ?_
          rotate_left
          · intro w hSw; (try dsimp only at hSw); go_simp; try with_reducible rfl
          try simp only [Act.put, List.setIfInBounds_toArray, List.set_cons_zero, List.set_cons_succ]
          refine held_take (i := 27) (v := ?_) rfl (by kernel_rfl) (by kernel_rfl) (by kernel_rfl) (fun _ _ _ h => h) (Or.inl ⟨by rfl, ?_⟩) (by assumption) ?_
          rotate_left
          · intro w hSw; (try dsimp only at hSw); go_simp; try with_reducible rfl
          try simp only [Act.put, List.setIfInBounds_toArray, List.set_cons_zero, List.set_cons_succ]
          refine held_take (i := 28) (v := ?_) rfl (by kernel_rfl) (by kernel_rfl) (by kernel_rfl) (fun _ _ _ h => h) (Or.inl ⟨by rfl, ?_⟩) (by assumption) ?_
          rotate_left
          · intro w hSw; (try dsimp only at hSw); go_simp; try with_reducible rfl
          try simp only [Act.put, List.setIfInBounds_toArray, List.set_cons_zero, List.set_cons_succ]
          refine held_take (i := 29) (v := ?_) rfl (by kernel_rfl) (by kernel_rfl) (by kernel_rfl) (fun _ _ _ h => h) (Or.inl ⟨by rfl, ?_⟩) (by assumption) ?_
          rotate_left
          · intro w hSw; (try dsimp only at hSw); go_simp; try with_reducible rfl
          try simp only [Act.put, List.setIfInBounds_toArray, List.set_cons_zero, List.set_cons_succ]
          refine held_take (i := 30) (v := ?_) rfl (by kernel_rfl) (by kernel_rfl) (by kernel_rfl) (fun _ _ _ h => h) (Or.inl ⟨by rfl, ?_⟩) (by assumption) ?_
          rotate_left
          · intro w hSw; (try dsimp only at hSw); go_simp; try with_reducible rfl
          try simp only [Act.put, List.setIfInBounds_toArray, List.set_cons_zero, List.set_cons_succ]
          refine held_take (i := 31) (v := ?_) rfl (by kernel_rfl) (by kernel_rfl) (by kernel_rfl) (fun _ _ _ h => h) (Or.inl ⟨by rfl, ?_⟩) (by assumption) ?_
          rotate_left
          · intro w hSw; (try dsimp only at hSw); go_simp; try with_reducible rfl
          try simp only [Act.put, List.setIfInBounds_toArray, List.set_cons_zero, List.set_cons_succ]
          refine held_take (i := 32) (v := ?_) rfl (by kernel_rfl) (by kernel_rfl) (by kernel_rfl) (fun _ _ _ h => h) (Or.inl ⟨by rfl, ?_⟩) (by assumption) ?_
          rotate_left
          · intro w hSw; (try dsimp only at hSw); go_simp; try with_reducible rfl
          try simp only [Act.put, List.setIfInBounds_toArray, List.set_cons_zero, List.set_cons_succ]
          refine held_take (i := 33) (v := ?_) rfl (by kernel_rfl) (by kernel_rfl) (by kernel_rfl) (fun _ _ _ h => h) (Or.inl ⟨by rfl, ?_⟩) (by assumption) ?_
          rotate_left
          · intro w hSw; (try dsimp only at hSw); go_simp; try with_reducible rfl
          try simp only [Act.put, List.setIfInBounds_toArray, List.set_cons_zero, List.set_cons_succ]
          refine held_take (i := 34) (v := ?_) rfl (by kernel_rfl) (by kernel_rfl) (by kernel_rfl) (fun _ _ _ h => h) (Or.inl ⟨by rfl, ?_⟩) (by assumption) ?_
          rotate_left
          · intro w hSw; (try dsimp only at hSw); go_simp; try with_reducible rfl
          try simp only [Act.put, List.setIfInBounds_toArray, List.set_cons_zero, List.set_cons_succ]
          refine held_take (i := 35) (v := ?_) rfl (by kernel_rfl) (by kernel_rfl) (by kernel_rfl) (fun _ _ _ h => h) (Or.inl ⟨by rfl, ?_⟩) (by assumption) ?_
          rotate_left
          · intro w hSw; (try dsimp only at hSw); go_simp; try with_reducible rfl
          try simp only [Act.put, List.setIfInBounds_toArray, List.set_cons_zero, List.set_cons_succ]
          refine held_take (i := 36) (v := ?_) rfl (by kernel_rfl) (by kernel_rfl) (by kernel_rfl) (fun _ _ _ h => h) (Or.inl ⟨by rfl, ?_⟩) (by assumption) ?_
          rotate_left
          · intro w hSw; (try dsimp only at hSw); go_simp; try with_reducible rfl
          try simp only [Act.put, List.setIfInBounds_toArray, List.set_cons_zero, List.set_cons_succ]
          refine held_take (i := 37) (v := _) rfl (by kernel_rfl) (by kernel_rfl) (by kernel_rfl) (fun _ _ _ h => h) (yieldsIf_str (by rfl) rfl rfl (v := v7) S7.out) (by assumption) ?_
          try simp only [Act.put, List.setIfInBounds_toArray, List.set_cons_zero, List.set_cons_succ]
          refine held_take (i := 38) (v := ?_) rfl (by kernel_rfl) (by kernel_rfl) (by kernel_rfl) (fun _ _ _ h => h) (Or.inl ⟨by rfl, ?_⟩) (by assumption) ?_
          rotate_left
          · intro w hSw; (try dsimp only at hSw); go_simp; try with_reducible rfl
          try simp only [Act.put, List.setIfInBounds_toArray, List.set_cons_zero, List.set_cons_succ]
          refine held_take (i := 39) (v := _) rfl (by kernel_rfl) (by kernel_rfl) (by kernel_rfl) (fun _ _ _ h => h) (yieldsIf_str (by rfl) rfl rfl (v := .slice (some ⟨w.heap.size + 1, 0, none⟩) 16 16) Sb.out) (by assumption) ?_
          try simp only [Act.put, List.setIfInBounds_toArray, List.set_cons_zero, List.set_cons_succ]
          refine held_take (i := 40) (v := ?_) rfl (by kernel_rfl) (by kernel_rfl) (by kernel_rfl) (fun _ _ _ h => h) (Or.inl ⟨by rfl, ?_⟩) (by assumption) ?_
          rotate_left
          · intro w hSw; (try dsimp only at hSw); go_simp; try with_reducible rfl
          try simp only [Act.put, List.setIfInBounds_toArray, List.set_cons_zero, List.set_cons_succ]
          refine held_take (i := 41) (v := ?_) rfl (by kernel_rfl) (by kernel_rfl) (by kernel_rfl) (fun _ _ _ h => h) (Or.inl ⟨by rfl, ?_⟩) (by assumption) ?_
          rotate_left
          · intro w hSw; (try dsimp only at hSw); go_simp; try with_reducible rfl
          try simp only [Act.put, List.setIfInBounds_toArray, List.set_cons_zero, List.set_cons_succ]
          refine held_take (i := 42) (v := ?_) rfl (by kernel_rfl) (by kernel_rfl) (by kernel_rfl) (fun _ _ _ h => h) (Or.inl ⟨by rfl, ?_⟩) (by assumption) ?_
          rotate_left
          · intro w hSw; (try dsimp only at hSw); go_simp; try with_reducible rfl
          try simp only [Act.put, List.setIfInBounds_toArray, List.set_cons_zero, List.set_cons_succ]
          refine held_take (i := 43) (v := ?_) rfl (by kernel_rfl) (by kernel_rfl) (by kernel_rfl) (fun _ _ _ h => h) (Or.inl ⟨by rfl, ?_⟩) (by assumption) ?_
          rotate_left
          · intro w hSw; (try dsimp only at hSw); go_simp; try with_reducible rfl
          try simp only [Act.put, List.setIfInBounds_toArray, List.set_cons_zero, List.set_cons_succ]
          refine held_take (i := 44) (v := ?_) rfl (by kernel_rfl) (by kernel_rfl) (by kernel_rfl) (fun _ _ _ h => h) (Or.inl ⟨by rfl, ?_⟩) (by assumption) ?_
          rotate_left
          · intro w hSw; (try dsimp only at hSw); go_simp; try with_reducible rfl
          try simp only [Act.put, List.setIfInBounds_toArray, List.set_cons_zero, List.set_cons_succ]
          refine held_take (i := 45) (v := ?_) rfl (by kernel_rfl) (by kernel_rfl) (by kernel_rfl) (fun _ _ _ h => h) (Or.inl ⟨by rfl, ?_⟩) (by assumption) ?_
          rotate_left
          · intro w hSw; (try dsimp only at hSw); go_simp; try with_reducible rfl
          try simp only [Act.put, List.setIfInBounds_toArray, List.set_cons_zero, List.set_cons_succ]
          refine held_take (i := 46) (v := ?_) rfl (by kernel_rfl) (by kernel_rfl) (by kernel_rfl) (fun _ _ _ h => h) (Or.inl ⟨by rfl, ?_⟩) (by assumption) ?_
          rotate_left
          · intro w hSw; (try dsimp only at hSw); go_simp; try with_reducible rfl
          try simp only [Act.put, List.setIfInBounds_toArray, List.set_cons_zero, List.set_cons_succ]
          refine wpAnyH_done (by kernel_rfl) ?_ _
          clear hHeld
          go_wp2_with fail
          go_ret
          exact ⟨rfl, low5.out⟩
end Go.Proofs.Ytnadgjlmlnhknaa
