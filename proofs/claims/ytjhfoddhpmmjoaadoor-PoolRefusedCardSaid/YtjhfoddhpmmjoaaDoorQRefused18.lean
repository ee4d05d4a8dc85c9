/-
  PoolRefused: the walk. The table of math/bits stands in the world: the one condition.
-/
import Derived.Test.YtjhfoddhpmmjoaaDoorQBegin18
import Derived.Test.YtjhfoddhpmmjoaaDoorQOpen18
import Derived.Laws.BitsAllLaws
namespace Go.Proofs.YtjhfoddhpmmjoaaDoor
set_option maxRecDepth 100000
open Go.RowKit Go.Maps

theorem i64_and1 (a : Int) : ∃ j : Nat, j ≤ 1 ∧ bits .and .i64 a 1 = (j : Int) := by
  refine ⟨(BitVec.ofInt 64 a &&& BitVec.ofInt 64 1).toNat, ?_, ?_⟩
  · rw [BitVec.toNat_and]
    exact Nat.le_trans Nat.and_le_right (by decide)
  · have h : (BitVec.ofInt 64 a &&& BitVec.ofInt 64 1).toNat ≤ 1 := by rw [BitVec.toNat_and]; exact Nat.le_trans Nat.and_le_right (by decide)
    show IntKind.i64.wrap ((BitVec.ofInt 64 a &&& BitVec.ofInt 64 1).toNat : Int) = _
    exact IntWalk.i64_in _ (by omega)
theorem OpsIn18.cell2 {w : World} {ob oo len : Nat} {F : Nat → Op18} (h : OpsIn18 w (some ⟨ob, oo, none⟩) len F) {i : Nat} (hi : i < len) : w.cell? ⟨ob, oo + i * 5 + 2, none⟩ = some (.int .i64 (F i).a) := (h.range hi) 2 _ rfl
theorem OpsIn18.cell4 {w : World} {ob oo len : Nat} {F : Nat → Op18} (h : OpsIn18 w (some ⟨ob, oo, none⟩) len F) {i : Nat} (hi : i < len) : w.cell? ⟨ob, oo + i * 5 + 4, none⟩ = some (.int .u8 ((F i).e : Int)) := (h.range hi) 4 _ rfl
/-- The loop's state. -/
structure RefSt (w0 w : World) (l : Pl) (R : Nat → Prop) (s : Ps) (k : Nat) : Prop where
  st : PlSt w0 w l R s
  n : s.n = 20
  start : s.start = 5
  le : s.Le k
  on : ∀ t, 1 ≤ t → t ≤ 3 → (s.E t).on = true
theorem RefSt.below {w0 w w' : World} {l : Pl} {R : Nat → Prop} {s : Ps} {k : Nat} (h : RefSt w0 w l R s k) (hB : Below w.heap.size w w') : RefSt w0 w' l R s k := { h with st := h.st.below hB }
theorem RefSt.fit {w0 w : World} {l : Pl} {R : Nat → Prop} {s : Ps} {k : Nat} (h : RefSt w0 w l R s k) : s.start + s.n ≤ s.D.n := by
  obtain ⟨FD, FL, h1, _⟩ := h.st.p; exact h1.fit
theorem RefSt.charge {w0 w : World} {l : Pl} {R : Nat → Prop} {s : Ps} {k : Nat} (h : RefSt w0 w l R s k) (t : Nat) : chargeI s.E (t : Int) ≤ 2048 := by
  have g := h.st.p.field.1
  have g1 := (g.good.lim t).2.2
  have g2 := (g.good.lim t).2.1
  have g3 := g.small
  unfold chargeI
  split
  · rw [Int.toNat_natCast]; omega
  · omega
/-- Of a pool: some state of it. -/
def RefAny (w0 w : World) (l : Pl) (k : Nat) : Prop := ∃ R s, RefSt w0 w l R s k
set_option maxHeartbeats 4000000 in
set_option maxRecDepth 100000 in
theorem refused18_any (w : World) (hT : TabAt w) (ao : Option Addr) (len cap : Nat) (F : Nat → Op18) (hO : OpsIn18 w ao len F) (y : Nat) (hy : y < 256) :
    Calls Tryd.prog 11 #[.slice ao len cap, .int .u8 (y : Int)] w fun e w' => e = .returned (.bool true) ∧ Below w.heap.size w w' := by
  have cb := begin18_any w
  have e31 : bits .and .u8 (y : Int) 31 = ((y &&& 31 : Nat) : Int) := u8_and_nat y 31 hy (by decide)
  have l31 : y &&& 31 ≤ 31 := Nat.and_le_right
  generalize y &&& 31 = c at *
  have wc : IntKind.i64.wrap (c : Int) = (c : Int) := IntWalk.i64_in _ (by omega)
  replace hT := Lib.hid hT
  replace hO := Lib.hid hO
  replace cb := Lib.hid cb
  go_enter Tryd.func11, Tryd.ntmps11
  go_wp2_with fail
  refine cb.out.mono ?_
  rintro e w1 ⟨l, R, rfl, st1⟩
  have cf := pool_fail st1 c
  clear cb
  replace st1 := Lib.hid st1
  replace cf := Lib.hid cf
  go_wp2_with fail
  refine cf.out.mono ?_
  rintro e w2 ⟨rfl, R2, st2, _⟩
  have s2 : RefAny w w2 l 0 := ⟨R2, _, st2, rfl, rfl, ⟨Nat.le_refl _, Nat.le_refl _, Nat.le_refl _, Nat.le_refl _, by show c ≤ _; omega⟩, fun t h1 h3 => eb_on h1 h3⟩
  clear cf st1 st2
  replace s2 := Lib.hid s2
  go_wp2_with fail
  go_loopw [8] (fun iv wr => ∃ i : Nat, i ≤ 50 ∧ i ≤ len ∧ iv = .int .i64 (i : Int) ∧ Hid (RefAny w wr l i)) (fun iv _ => 50 - (intOf iv).toNat)
  case atStart => exact ⟨0, by decide, Nat.zero_le _, rfl, s2⟩
  case round =>
    clear s2
    obtain ⟨i, hi, hil, rfl, sa⟩ := hrel
    obtain ⟨R, s, st⟩ := sa.out
    by_cases hlt : i < len ∧ i < 50
    · have d1 : decide ((i : Int) < (len : Int)) = true := decide_eq_true (by omega)
      have d2 : decide ((i : Int) < 50) = true := decide_eq_true (by omega)
      have d3 : 0 ≤ (i : Int) ∧ (i : Int) < (len : Int) := by omega
      have hO2 := hO.out.below st.st.low
      obtain ⟨pb, po, rfl⟩ := hO2.addr hlt.1
      have c2 := hO2.cell2 hlt.1
      have c4 := hO2.cell4 hlt.1
      have he := (hO2 i hlt.1).1
      generalize (F i).a = fa at *
      generalize (F i).e = fe at *
      obtain ⟨j, hj, ej⟩ := i64_and1 fa
      have w1 : IntKind.i64.wrap (1 + (j : Int)) = 1 + (j : Int) := IntWalk.i64_in _ (by omega)
      have ejt : ((j + 1 : Nat) : Int) = 1 + (j : Int) := by omega
      have hin : isIn s.E (1 + (j : Int)) = true := by rw [← ejt]; exact isIn_of_on (by omega) (by omega) (st.on (j + 1) (by omega) (by omega))
      have hch : chargeI s.E (1 + (j : Int)) ≤ 2048 := by rw [← ejt]; exact st.charge (j + 1)
      have cpf := pfield_at st.st.p
      have cch := echarge_any st.st.p.field.1 (1 + (j : Int))
      have csl := eslack_any st.st.p.field.1
      have hbump := chargeI_bump hin
      obtain ⟨q, hq⟩ : ∃ q, q = chargeI s.E (1 + (j : Int)) := ⟨_, rfl⟩
      rw [← hq] at cch hch hbump
      obtain ⟨z, hz⟩ : ∃ z : Int, z = (s.n : Int) - (sumA s.E 9 : Int) := ⟨_, rfl⟩
      rw [← hz] at csl
      have w2 : IntKind.i64.wrap ((q : Int) + 1) = (q : Int) + 1 := IntWalk.i64_in _ (by omega)
      clear ejt hO2
      replace st := Lib.hid st
      replace sa := Lib.hid sa
      replace cpf := Lib.hid cpf
      replace cch := Lib.hid cch
      replace csl := Lib.hid csl
      replace hin := Lib.hid hin
      replace hbump := Lib.hid hbump
      replace hq := Lib.hid hq
      replace hz := Lib.hid hz
      go_wp2_with fail
      refine cpf.out.mono ?_
      rintro e _ ⟨rfl, rfl⟩
      go_wp2_with fail
      refine cch.out.mono ?_
      rintro e _ ⟨rfl, rfl⟩
      go_wp2_with fail
      refine cpf.out.mono ?_
      rintro e _ ⟨rfl, rfl⟩
      go_wp2_with fail
      refine csl.out.mono ?_
      rintro e w3 ⟨rfl, B3⟩
      have st3 := st.out.below B3
      have c43 := (B3.cell (block_lt_of_cell c4)).trans c4
      have cfl := full_loop w3 fe he 0
      clear cpf cch csl B3
      replace st3 := Lib.hid st3
      replace cfl := Lib.hid cfl
      go_wp2_with fail
      refine cfl.out.mono ?_
      rintro e w4 ⟨v4, rfl, o4, B4, _⟩
      have st4 := st3.out.below B4
      have cp := pool_put st4.st hT.out (st4.le.ok (by omega)) (1 + (j : Int)) v4 (fullT fe 0) (fresh_text o4 (fullT_small he 0) (fun k hk => st3.out.st.p.lt hk)) (by rw [full0_length]; omega)
      clear cfl o4 B4
      replace st4 := Lib.hid st4
      replace cp := Lib.hid cp
      go_wp2_with fail
      refine cp.out.mono ?_
      rintro e w5 ⟨x5, sum5, E5, s5, R5, rfl, rel5, st5, _⟩
      obtain ⟨ln5, _⟩ := rel5.length
      obtain ⟨f1, f2, f3⟩ := rel5.field (full0_length fe) hin.out st4.out.fit
      have le5 := rel5.le st4.out.le
      clear cp rel5
      rcases f3 with ⟨rfl, f3⟩ | ⟨f4, f3, _⟩
      · have S5 : RefSt w w5 l R5 s5 (i + 1) := ⟨st5, f1.trans st.out.n, f2.trans st.out.start, le5, fun t h1 h3 => by rw [f3, bumpT_on]; exact st.out.on t h1 h3⟩
        have cA := fun wx (hx : RefSt w wx l R5 s5 (i + 1)) => pfield_at hx.st.p
        have cB := fun wx (hx : RefSt w wx l R5 s5 (i + 1)) => echarge_any hx.st.p.field.1 (1 + (j : Int))
        rw [f3, hbump.out] at cB
        have e2 : ((q + 1 : Nat) : Int) = (q : Int) + 1 := by omega
        rw [e2] at cB
        clear e2
        replace S5 := Lib.hid S5
        replace cA := Lib.hid cA
        replace cB := Lib.hid cB
        replace st5 := Lib.hid st5
        replace f1 := Lib.hid f1
        replace f2 := Lib.hid f2
        replace f3 := Lib.hid f3
        replace le5 := Lib.hid le5
        replace ln5 := Lib.hid ln5
        go_wp2_with (refine wpList_store_new (by rfl) (.tmp 12) (.tmp 60) rfl (refV x5 sum5) rfl rfl (infoRef x5 ln5.out) (by rw [refV_size x5 ln5.out]; rfl) (refV_one x5 sum5) ?_; intro w6 R6 B6; have S6 := S5.out.below B6.out; replace S6 := Lib.hid S6)
        refine (cA.out _ S6.out).mono ?_
        rintro e _ ⟨rfl, rfl⟩
        go_wp2_with fail
        refine (cB.out _ S6.out).mono ?_
        rintro e _ ⟨rfl, rfl⟩
        go_wp2_with fail
        go_roundw
        case rel => exact ⟨i + 1, by omega, by omega, by go_num, ⟨R5, s5, S6.out⟩⟩
        case measure => simp [intOf]; omega
      · have S5 : RefSt w w5 l R5 s5 (i + 1) := ⟨st5, f1.trans st.out.n, f2.trans st.out.start, le5, fun t h1 h3 => by rw [f3]; exact st.out.on t h1 h3⟩
        have cA := fun wx (hx : RefSt w wx l R5 s5 (i + 1)) => pfield_at hx.st.p
        have cB := fun wx (hx : RefSt w wx l R5 s5 (i + 1)) => echarge_any hx.st.p.field.1 (1 + (j : Int))
        have cC := fun wx (hx : RefSt w wx l R5 s5 (i + 1)) => eslack_any hx.st.p.field.1
        rw [f3, ← hq.out] at cB
        rw [f3, f1, ← hz.out] at cC
        have dE : E5 ≠ 0 ∧ (E5 = 60 ∨ E5 = 61 ∨ E5 = 30) := ⟨by omega, f4⟩
        clear f4
        replace S5 := Lib.hid S5
        replace cA := Lib.hid cA
        replace cB := Lib.hid cB
        replace cC := Lib.hid cC
        replace st5 := Lib.hid st5
        replace f1 := Lib.hid f1
        replace f2 := Lib.hid f2
        replace f3 := Lib.hid f3
        replace le5 := Lib.hid le5
        replace ln5 := Lib.hid ln5
        rcases dE with ⟨_, rfl | rfl | rfl⟩
        ·
          go_wp2_with (refine wpList_store_new (by rfl) (.tmp 12) (.tmp 60) rfl (refV x5 sum5) rfl rfl (infoRef x5 ln5.out) (by rw [refV_size x5 ln5.out]; rfl) (refV_one x5 sum5) ?_; intro w6 R6 B6; have S6 := S5.out.below B6.out; replace S6 := Lib.hid S6)
          refine (cA.out _ S6.out).mono ?_
          rintro e _ ⟨rfl, rfl⟩
          go_wp2_with fail
          refine (cB.out _ S6.out).mono ?_
          rintro e _ ⟨rfl, rfl⟩
          go_wp2_with fail
          refine (cA.out _ S6.out).mono ?_
          rintro e _ ⟨rfl, rfl⟩
          go_wp2_with fail
          refine (cC.out _ S6.out).mono ?_
          rintro e w7 ⟨rfl, B7⟩
          have S7 := S6.out.below B7
          replace S7 := Lib.hid S7
          go_wp2_with fail
          go_roundw
          case rel => exact ⟨i + 1, by omega, by omega, by go_num, ⟨R5, s5, S7.out⟩⟩
          case measure => simp [intOf]; omega
        ·
          go_wp2_with (refine wpList_store_new (by rfl) (.tmp 12) (.tmp 60) rfl (refV x5 sum5) rfl rfl (infoRef x5 ln5.out) (by rw [refV_size x5 ln5.out]; rfl) (refV_one x5 sum5) ?_; intro w6 R6 B6; have S6 := S5.out.below B6.out; replace S6 := Lib.hid S6)
          refine (cA.out _ S6.out).mono ?_
          rintro e _ ⟨rfl, rfl⟩
          go_wp2_with fail
          refine (cB.out _ S6.out).mono ?_
          rintro e _ ⟨rfl, rfl⟩
          go_wp2_with fail
          refine (cA.out _ S6.out).mono ?_
          rintro e _ ⟨rfl, rfl⟩
          go_wp2_with fail
          refine (cC.out _ S6.out).mono ?_
          rintro e w7 ⟨rfl, B7⟩
          have S7 := S6.out.below B7
          replace S7 := Lib.hid S7
          go_wp2_with fail
          go_roundw
          case rel => exact ⟨i + 1, by omega, by omega, by go_num, ⟨R5, s5, S7.out⟩⟩
          case measure => simp [intOf]; omega
        ·
          go_wp2_with (refine wpList_store_new (by rfl) (.tmp 12) (.tmp 60) rfl (refV x5 sum5) rfl rfl (infoRef x5 ln5.out) (by rw [refV_size x5 ln5.out]; rfl) (refV_one x5 sum5) ?_; intro w6 R6 B6; have S6 := S5.out.below B6.out; replace S6 := Lib.hid S6)
          refine (cA.out _ S6.out).mono ?_
          rintro e _ ⟨rfl, rfl⟩
          go_wp2_with fail
          refine (cB.out _ S6.out).mono ?_
          rintro e _ ⟨rfl, rfl⟩
          go_wp2_with fail
          refine (cA.out _ S6.out).mono ?_
          rintro e _ ⟨rfl, rfl⟩
          go_wp2_with fail
          refine (cC.out _ S6.out).mono ?_
          rintro e w7 ⟨rfl, B7⟩
          have S7 := S6.out.below B7
          replace S7 := Lib.hid S7
          go_wp2_with fail
          go_roundw
          case rel => exact ⟨i + 1, by omega, by omega, by go_num, ⟨R5, s5, S7.out⟩⟩
          case measure => simp [intOf]; omega
    · have dd : (decide ((i : Int) < (len : Int)) = false ∧ ¬ i < len) ∨ (decide ((i : Int) < (len : Int)) = true ∧ decide ((i : Int) < 50) = false ∧ ¬ i < 50 ∧ i < len) := by
        by_cases h : i < len
        · exact .inr ⟨decide_eq_true (by omega), decide_eq_false (by omega), by omega, h⟩
        · exact .inl ⟨decide_eq_false (by omega), h⟩
      have B := st.st.low
      have al := alive_any18 wr (hT.out.below B)
      clear hlt
      replace B := Lib.hid B
      replace al := Lib.hid al
      replace st := Lib.hid st
      replace sa := Lib.hid sa
      rcases dd with ⟨d1, d1n⟩ | ⟨d1, d2, d2n, d1n⟩
      · go_wp2_with fail
        refine al.out.mono ?_
        rintro e w3 ⟨rfl, B3⟩
        go_wp2_with fail
        go_ret
        exact ⟨rfl, B.out.trans (B3.mono B.out.size)⟩
      · go_wp2_with fail
        refine al.out.mono ?_
        rintro e w3 ⟨rfl, B3⟩
        go_wp2_with fail
        go_ret
        exact ⟨rfl, B.out.trans (B3.mono B.out.size)⟩
end Go.Proofs.YtjhfoddhpmmjoaaDoor
