/-
  PoolTold: the walk. The table of math/bits stands in the world: the one condition.
-/
import Derived.Test.YtjhfoddhpmmjoaaDoorQToldPlain18
import Derived.Deep.MidRow
import Derived.Deep.CutRange
import Derived.Deep.CutBlock
namespace Go.Proofs.YtjhfoddhpmmjoaaDoor
set_option maxRecDepth 100000
open Go.RowKit Go.Maps

def lenOf : Value → Nat
  | .slice _ n _ => n
  | _ => 0
/-- The state of the first loop. -/
def Told1 (w0 w : World) (l : Pl) (i : Nat) (lv : Value) (P : Nat → Nat) : Prop := ∃ R s L, ToldSt w0 w l R s i lv L P ∧ L.length = i ∧ s.E = E12 i
/-- The state behind it. -/
def Told2 (w0 w : World) (l : Pl) (k m : Nat) (lv : Value) (P : Nat → Nat) : Prop := ∃ R s L, ToldSt w0 w l R s k lv L P ∧ L.length = m
theorem one_text (w : World) {x : Nat} (hx : x < 256) : TextAt (w.alloc (.cells #[.int .u8 (x : Int)] 5)) (.slice (some ⟨w.heap.size, 0, none⟩) 1 1) [x] := by
  refine ⟨some ⟨w.heap.size, 0, none⟩, 1, rfl, Nat.le_refl _, fun e => by simp at e, fun i hi => ?_⟩
  obtain rfl : i = 0 := by simpa using hi
  exact ⟨hx, _, _, rfl, cell_alloc_new' _ _ _⟩
set_option maxHeartbeats 4000000 in
set_option maxRecDepth 100000 in
theorem told18_any (w : World) (hT : TabAt w) (a0 : Option Addr) (c0 : Nat) (t0 : List Nat) (h0 : TextAt w (.slice a0 t0.length c0) t0) (a1 : Option Addr) (c1 : Nat) (t1 : List Nat) (h1 : TextAt w (.slice a1 t1.length c1) t1)
    (a2 : Option Addr) (c2 : Nat) (ls : List (List Nat)) (h2 : TextsAt w a2 ls) :
    Calls Tryd.prog 10 #[.slice a0 t0.length c0, .slice a1 t1.length c1, .slice a2 ls.length c2] w fun e w' => e = .returned (.bool true) ∧ Below w.heap.size w w' := by
  obtain ⟨_, _, e0, _, _, y0⟩ := h0.ex
  obtain ⟨rfl, rfl⟩ : a0 = _ ∧ c0 = _ := by injection e0 with q1 _ q3; exact ⟨q1, q3⟩
  obtain ⟨_, _, e1, _, _, y1⟩ := h1.ex
  obtain ⟨rfl, rfl⟩ : a1 = _ ∧ c1 = _ := by injection e1 with q1 _ q3; exact ⟨q1, q3⟩
  have hs0 := h0.small
  have hs1 := h1.small
  have y2 := h2
  clear e0 e1 h0 h1 h2
  generalize hm0 : t0.length = m0 at *
  generalize hm1 : t1.length = m1 at *
  have cb := begin18_any w
  replace hT := Lib.hid hT
  replace y0 := Lib.hid y0
  replace y1 := Lib.hid y1
  replace y2 := Lib.hid y2
  replace hs0 := Lib.hid hs0
  replace hs1 := Lib.hid hs1
  replace hm0 := Lib.hid hm0
  replace hm1 := Lib.hid hm1
  replace cb := Lib.hid cb
  by_cases h20 : ls.length > 20
  · have d20 : decide ((ls.length : Int) > 20) = true := decide_eq_true (by omega)
    generalize hn2 : ls.length = n2 at *
    replace hn2 := Lib.hid hn2
    go_enter Tryd.func10, Tryd.ntmps10
    go_wp2_with fail
    refine cb.out.mono ?_
    rintro e w1 ⟨l, R1, rfl, st1⟩
    have B := st1.low
    have al := alive_any18 w1 (hT.out.below B)
    clear cb st1
    replace B := Lib.hid B
    replace al := Lib.hid al
    go_wp2_with fail
    refine al.out.mono ?_
    rintro e w3 ⟨rfl, B3⟩
    have C3 := B.out.trans (B3.mono B.out.size)
    replace C3 := Lib.hid C3
    go_wp2_with fail
    go_ret
    exact ⟨rfl, C3.out⟩
  · have d20 : decide ((ls.length : Int) > 20) = false := decide_eq_false (by omega)
    go_enter Tryd.func10, Tryd.ntmps10
    go_wp2_with fail
    refine cb.out.mono ?_
    rintro e w1 ⟨l, R1, rfl, st1⟩
    have s1 : Told1 w w1 l 0 (.slice none 0 0) (byt t0) := ⟨R1, sB 3, [], ⟨st1, rfl, rfl, sB_le 3, rfl, rfl, ROwn.nil _ _, fun k hk => by simp [Value.ownBlock] at hk, fun i p hp => by simp at hp, fun t ht => by simp [sB] at ht⟩, rfl, e12_0⟩
    clear cb st1
    replace s1 := Lib.hid s1
    go_upto_block 0 with fail
    go_cut [11, 10] from 35 to 60 (fun iv lv wx => ∃ m : Nat, m ≤ 12 ∧ m ≤ m0 ∧ Hid (Told2 w wx l 12 m lv (byt t0)))
    case first =>
      go_wp2_with fail
      go_loopw [11, 10] (fun iv lv wr => ∃ i : Nat, i ≤ 12 ∧ i ≤ m0 ∧ iv = .int .i64 (i : Int) ∧ Hid (Told1 w wr l i lv (byt t0))) (fun iv _ _ => 12 - (intOf iv).toNat)
      case atStart => exact ⟨0, by decide, Nat.zero_le _, rfl, s1⟩
      case round =>
        clear s1
        obtain ⟨i, hi, him, rfl, sa⟩ := hrel
        obtain ⟨R, s, L, st, hLi, hE⟩ := sa.out
        by_cases hlt : i < m0 ∧ i < 12
        · have d1 : decide ((i : Int) < (m0 : Int)) = true := decide_eq_true (by omega)
          have d2 : decide ((i : Int) < 12) = true := decide_eq_true (by omega)
          have d3 : 0 ≤ (i : Int) ∧ (i : Int) < (m0 : Int) := by omega
          obtain ⟨hbt, pb, po, rfl, cP⟩ := (y0.out.below st.st.low) i (by have := hm0.out; omega)
          have cfl := full_loop wr (byt t0 i) hbt 0
          replace st := Lib.hid st
          replace sa := Lib.hid sa
          replace hE := Lib.hid hE
          replace cfl := Lib.hid cfl
          replace hLi := Lib.hid hLi
          generalize hPi : byt t0 i = pi at *
          go_wp2_with fail
          refine cfl.out.mono ?_
          rintro e w2 ⟨v2, rfl, o2, B2, _⟩
          have st2 := st.out.below B2
          have cp := pool_put st2.st hT.out (st2.le.ok (by omega)) 3 v2 (fullT pi 0) (fresh_text o2 (fullT_small hbt 0) (fun k hk => st.out.st.p.lt hk)) (by rw [full0_length]; omega)
          clear cfl o2 B2
          replace st2 := Lib.hid st2
          replace cp := Lib.hid cp
          replace hPi := Lib.hid hPi
          go_wp2_with fail
          refine cp.out.mono ?_
          rintro e w3 ⟨x3, sum3, E3, s3, R3, rfl, rel3, st3, hR3, U3⟩
          obtain ⟨ln3, lb3⟩ := rel3.length
          obtain ⟨rfl, r1, r2, r3, r4, r5, r6, r7, r8⟩ := rel3.calm (full0_length pi) st.out.n hE.out hlt.2 st.out.up st.out.calm st2.out.fit
          have S3 := st2.out.turn st3 hR3 U3 r3 r4 (rel3.le st2.out.le) r7 r8 (fun t ht => by rw [r6]; exact mem_addT_old ht) (by rw [r6]; exact st2.out.short.add (by rw [full0_length]; omega))
          have hin3 : fullT pi 0 ∈ s3.T := by rw [r6]; exact mem_addT_self _ _
          clear cp rel3 st3 hR3 U3 r3 r4 r6 r7 r8
          replace S3 := Lib.hid S3
          replace ln3 := Lib.hid ln3
          replace lb3 := Lib.hid lb3
          replace r1 := Lib.hid r1
          replace r2 := Lib.hid r2
          replace r5 := Lib.hid r5
          replace hin3 := Lib.hid hin3
          go_wp2_with (first
            | (refine wpList_store_new (by rfl) (.tmp 12) (.tmp 53) rfl (refV x3 sum3) rfl rfl (infoRef x3 ln3.out) (by rw [refV_size x3 ln3.out]; rfl) (refV_one x3 sum3) ?_; intro w4 R4 B4; have S4 := S3.out.below B4.out; have BA : Below w4.heap.size w4 (w4.alloc (.cells (refV x3 sum3) 76)) := (Below.refl _ _).alloc (Nat.le_refl _) _; have hpush := fun ty => (S4.below BA).push r1.out ln3.out lb3.out (by rw [hLi.out, hPi.out]; exact r2.out) (by rw [hLi.out, hPi.out]; exact hin3.out) (heap_alloc_new _ _) (by rw [hLi.out]; omega) ty; clear BA S4; replace hpush := Lib.hid hpush)
            | refine wpList_load_row (by rfl) 76 (.tmp 12) rfl w3.heap.size rfl 76 (refV x3 sum3) (0, 0) _ R4.out Tryd.underlying76 rfl (infoRef x3 ln3.out) ?_
            | refine wpList_build_ref (by rfl) (.tmp 58) rfl ln3.out rfl ?_
            | (refine wpList_append_run1 (by rfl) (.tmp 57) (.tmp 59) 96 rfl u10 (.slice (some ⟨w4.heap.size, 0, none⟩) 1 1) rfl rfl (hpush.out _) ?_; rintro v5 w5 ⟨S5, _⟩; replace S5 := Lib.hid S5))
          go_roundw
          case rel => exact ⟨i + 1, by omega, by omega, by go_num, ⟨R3, s3, _, S5.out, by rw [List.length_append, hLi.out]; rfl, r5.out⟩⟩
          case measure => simp [intOf]; omega
        · have dd : (decide ((i : Int) < (m0 : Int)) = false ∧ ¬ i < m0) ∨ (decide ((i : Int) < (m0 : Int)) = true ∧ decide ((i : Int) < 12) = false ∧ ¬ i < 12 ∧ i < m0) := by
            by_cases h : i < m0
            · exact .inr ⟨decide_eq_true (by omega), decide_eq_false (by omega), by omega, h⟩
            · exact .inl ⟨decide_eq_false (by omega), h⟩
          have s2 : Told2 w wr l 12 i u10 (byt t0) := ⟨R, s, L, { st with le := st.le.mono (by omega) }, hLi⟩
          clear hlt st hLi hE
          replace s2 := Lib.hid s2
          replace sa := Lib.hid sa
          rcases dd with ⟨d1, d1n⟩ | ⟨d1, d2, d2n, d1n⟩
          · go_wp2_with fail
            go_meet
            case rel => exact ⟨i, by omega, by omega, s2⟩
          · go_wp2_with fail
            go_meet
            case rel => exact ⟨i, by omega, by omega, s2⟩
    case rest =>
      clear s1
      obtain ⟨m, hm12, hmm, s2⟩ := hcut
      obtain ⟨ao, cap, rfl⟩ : ∃ ao cap, u10 = .slice ao m cap := by
        obtain ⟨R, s, L, st, hLm⟩ := s2.out
        obtain ⟨ao, cap, e, _⟩ := st.refs.form
        exact ⟨ao, cap, by rw [e, hLm]⟩
      have s3 : Told2 w wc l (12 + 0) m (.slice ao m cap) (byt t0) := s2.out
      generalize hn2 : ls.length = n2 at *
      clear s2
      replace s3 := Lib.hid s3
      replace hn2 := Lib.hid hn2
      go_upto_block 2 with fail
      go_cut [14, 15] from 61 to 110 (fun iv bv wx => Hid (∃ k : Nat, k ≤ 40 ∧ Told2 w wx l k m (.slice ao m cap) (byt t0)))
      case first =>
        go_wp2_with fail
        go_loopw [14, 15] (fun iv bv wr => ∃ i : Nat, i ≤ n2 ∧ iv = .int .i64 (i : Int) ∧ Hid (Told2 w wr l (12 + i) m (.slice ao m cap) (byt t0))) (fun iv _ _ => n2 - (intOf iv).toNat)
        case atStart => exact ⟨0, Nat.zero_le _, rfl, s3⟩
        case round =>
          clear s3
          obtain ⟨i, hi, rfl, sa⟩ := hrel
          obtain ⟨R, s, L, st, hLi⟩ := sa.out
          have B := st.st.low
          by_cases hlt : i < n2 ∧ i < m1 ∧ 0 < m
          · have d1 : decide ((i : Int) < (n2 : Int)) = true := decide_eq_true (by omega)
            have d2 : decide ((i : Int) < (m1 : Int)) = true := decide_eq_true (by omega)
            have d3 : decide ((m : Int) > 0) = true := decide_eq_true (by omega)
            have b1 : 0 ≤ (i : Int) ∧ (i : Int) < (n2 : Int) := by omega
            have b2 : 0 ≤ (i : Int) ∧ (i : Int) < (m1 : Int) := by omega
            have b0 : 0 ≤ (0 : Int) ∧ (0 : Int) < (m0 : Int) := by omega
            obtain ⟨ob, oo, rfl, ai, ci, hc, hci, hby, hno⟩ := y2.out i (by have := hn2.out; omega)
            obtain ⟨hq, qb, qo, rfl, cQ⟩ := (y1.out.below B) i (by have := hm1.out; omega)
            obtain ⟨hp0, pb, po, rfl, cP⟩ := (y0.out.below B) 0 (by have := hm0.out; omega)
            rw [Nat.add_zero] at cP
            have ht : TextAt w (.slice ai (ls.getD i []).length ci) (ls.getD i []) := ⟨ai, ci, rfl, hci, hno, hby⟩
            have cT := (B.cell (block_lt_of_cell hc)).trans hc
            have lob := block_lt_of_cell cT
            simp only at lob
            have tB := (ht.below B).alloc (.cells #[] 5)
            have hsm := ht.small
            have O := Own.empty (w := wr) wr.heap.size (Nat.le_refl _)
            have B0 : Below wr.heap.size wr (wr.alloc (.cells #[] 5)) := (Below.refl _ _).alloc (Nat.le_refl _) _
            clear hc hci hby hno ht
            generalize ls.getD i [] = d at *
            generalize byt t1 i = q at *
            generalize hp : byt t0 0 = p0 at *
            by_cases hlen : d.length > 512
            · have d4 : decide ((d.length : Int) > 512) = true := decide_eq_true (by omega)
              have al := alive_any18 wr (hT.out.below B)
              replace B := Lib.hid B
              replace st := Lib.hid st
              replace sa := Lib.hid sa
              replace hLi := Lib.hid hLi
              replace tB := Lib.hid tB
              replace hsm := Lib.hid hsm
              replace O := Lib.hid O
              replace B0 := Lib.hid B0
              replace al := Lib.hid al
              replace hp := Lib.hid hp
              go_wp2_with fail
              refine al.out.mono ?_
              rintro e w3 ⟨rfl, B3⟩
              have C3 := B.out.trans (B3.mono B.out.size)
              replace C3 := Lib.hid C3
              go_wp2_with fail
              go_ret
              exact ⟨rfl, C3.out⟩
            · have d4 : decide ((d.length : Int) > 512) = false := decide_eq_false (by omega)
              replace B := Lib.hid B
              replace st := Lib.hid st
              replace sa := Lib.hid sa
              replace hLi := Lib.hid hLi
              replace tB := Lib.hid tB
              replace hsm := Lib.hid hsm
              replace O := Lib.hid O
              replace B0 := Lib.hid B0
              replace hp := Lib.hid hp
              go_wp2_with (refine wpList_append_s (by rfl) (.tmp 85) (.tmp 89) rfl wr.heap.size wr (.slice (some ⟨wr.heap.size, 0, none⟩) 0 0) [] rfl O.out B0.out (by simp) (.slice ai d.length ci) d rfl tB.out (by simp; omega) ?_; intro v1 w1 O1 B1)
              rw [List.nil_append] at O1
              generalize hw9 : wr = w9 at *
              clear hw9
              have o1 : ∃ t : List Nat, t.length ≤ 512 ∧ Hid (Own w1 w9.heap.size 5 v1 (u8l t)) ∧ Hid (Below w9.heap.size w9 w1) ∧ Hid (∀ x ∈ t, x < 256) := ⟨d, by omega, O1.out, B1.out, hsm⟩
              clear O1 B1 O B0 tB hsm
              replace o1 := Lib.hid o1
              go_loopw [15] (fun bv wr => ∃ t : List Nat, t.length ≤ 512 ∧ Hid (Own wr w9.heap.size 5 bv (u8l t)) ∧ Hid (Below w9.heap.size w9 wr) ∧ Hid (∀ x ∈ t, x < 256)) (fun bv _ => 512 - lenOf bv)
              case atStart => exact o1.out
              case round =>
                clear o1
                obtain ⟨t, ht, oy, By, hst⟩ := hrel
                have el : (u8l t).length = t.length := by simp [u8l]
                obtain ⟨at', ct, rfl, _⟩ := oy.out.form
                rw [el]
                rw [el] at oy
                obtain ⟨N, hN⟩ : ∃ N, N = t.length := ⟨_, rfl⟩
                rw [← hN] at ht oy ⊢
                by_cases hlt2 : N < 512
                · have e1 : decide ((N : Int) < 512) = true := decide_eq_true (by omega)
                  have cP2 := (By.out.cell (block_lt_of_cell cP)).trans cP
                  have lpb := block_lt_of_cell cP2
                  simp only at lpb
                  have tx := one_text wr hp0
                  have oa := oy.out.alloc (.cells #[.int .u8 (p0 : Int)] 5)
                  have Ba := By.out.alloc (o := .cells #[.int .u8 (p0 : Int)] 5) By.out.size
                  replace tx := Lib.hid tx
                  replace oa := Lib.hid oa
                  replace Ba := Lib.hid Ba
                  replace hN := Lib.hid hN
                  replace el := Lib.hid el
                  go_wp2_with (refine wpList_append_s (by rfl) (.tmp 94) (.tmp 98) rfl w9.heap.size w9 (.slice at' N ct) t rfl oa.out Ba.out (by have := By.out.size; simp; omega) (.slice (some ⟨wr.heap.size, 0, none⟩) 1 1) [p0] rfl tx.out (by have := hN.out; simp; omega) ?_; intro v5 w5 O5 B5)
                  have fv : lenOf v5 = N + 1 := by
                    obtain ⟨_, _, e, _⟩ := O5.out.form
                    rw [e]; simp [lenOf, u8l, hN.out]
                  replace fv := Lib.hid fv
                  go_roundw
                  case rel => exact ⟨t ++ [p0], by have := hN.out; simp; omega, O5.out, B5.out, fun x hx => by
                    rcases List.mem_append.1 hx with hx | hx
                    · exact hst.out x hx
                    · rw [List.mem_singleton.1 hx]; exact hp0⟩
                  case measure => rw [fv.out]; simp only [lenOf]; omega
                · have e1 : decide ((N : Int) < 512) = false := decide_eq_false (by omega)
                  have hN5 : N = 512 := by omega
                  have st9 := st.out.below By.out
                  have tx := oy.out.text hst.out
                  have cQ2 := (By.out.cell (block_lt_of_cell cQ)).trans cQ
                  have ct2 := pool_tamper st9.st (by have := st9.le.waits; omega) (5 + q % 20) (by omega) (.slice at' N ct) t tx
                  clear tx oy
                  replace st9 := Lib.hid st9
                  replace ct2 := Lib.hid ct2
                  replace hN5 := Lib.hid hN5
                  replace hN := Lib.hid hN
                  replace el := Lib.hid el
                  go_wp2_with fail
                  rw [show (5 + (q : Int) % 20) = ((5 + q % 20 : Nat) : Int) by omega]
                  refine ct2.out.mono ?_
                  rintro e w6 ⟨rfl, R6, st6, hR6, U6⟩
                  obtain ⟨_, k2, _, _, k5, _⟩ := tamperD_same s.D (5 + q % 20) t
                  have S6 : Told2 w w6 l (12 + (i + 1)) m (.slice ao m cap) (byt t0) := ⟨R6, _, L, st9.out.turn st6 hR6 U6 rfl rfl ((st9.out.le.tamper _ _).mono (by omega)) (k2.trans st9.out.up) (k5.trans st9.out.calm) (fun t ht => ht) st9.out.short, hLi.out⟩
                  clear ct2 st9 st6 hR6 U6 k2 k5
                  replace S6 := Lib.hid S6
                  go_wp2_with fail
                  go_roundw
                  case rel => exact ⟨i + 1, by omega, by go_num, S6.out⟩
                  case measure => simp [intOf]; omega
          · have dd : (decide ((i : Int) < (n2 : Int)) = false ∧ ¬ i < n2) ∨ (decide ((i : Int) < (n2 : Int)) = true ∧ decide ((i : Int) < (m1 : Int)) = false ∧ i < n2 ∧ ¬ i < m1) ∨ (decide ((i : Int) < (n2 : Int)) = true ∧ decide ((i : Int) < (m1 : Int)) = true ∧ decide ((m : Int) > 0) = false ∧ i < n2 ∧ i < m1 ∧ ¬ 0 < m) := by
              by_cases h : i < n2
              · by_cases h2 : i < m1
                · exact .inr (.inr ⟨decide_eq_true (by omega), decide_eq_true (by omega), decide_eq_false (by omega), h, h2, by omega⟩)
                · exact .inr (.inl ⟨decide_eq_true (by omega), decide_eq_false (by omega), h, h2⟩)
              · exact .inl ⟨decide_eq_false (by omega), h⟩
            have fin : ∃ k : Nat, k ≤ 40 ∧ Told2 w wr l k m (.slice ao m cap) (byt t0) := ⟨12 + i, by omega, sa.out⟩
            clear st B sa hlt hLi
            replace fin := Lib.hid fin
            rcases dd with ⟨d1, a1⟩ | ⟨d1, d2, a1, a2⟩ | ⟨d1, d2, d3, a1, a2, a3⟩
            · go_wp2_with fail
              go_meet
              case rel => exact fin
            · go_wp2_with fail
              go_meet
              case rel => exact fin
            · go_wp2_with fail
              go_meet
              case rel => exact fin
      case rest =>
        clear s3
        obtain ⟨k, hk, s4⟩ := hcut.out
        replace s4 := Lib.hid s4
        go_wp2_with fail
        go_loopw [16, 17, 18] (fun iv _ _ wr => ∃ i : Nat, i ≤ m ∧ iv = .int .i64 (i : Int) ∧ Hid (Told2 w wr l (k + i) m (.slice ao m cap) (byt t0))) (fun iv _ _ _ => m - (intOf iv).toNat)
        case atStart => exact ⟨0, Nat.zero_le _, rfl, s4⟩
        case round =>
          clear s4
          obtain ⟨i, hi, rfl, sa⟩ := hrel
          obtain ⟨R, s, L, st, hLi⟩ := sa.out
          have B := st.st.low
          by_cases hlt : i < m
          · have d1 : decide ((i : Int) < (m : Int)) = true := decide_eq_true (by omega)
            have b1 : 0 ≤ (i : Int) ∧ (i : Int) < (m : Int) := by omega
            have b2 : 0 ≤ (i : Int) ∧ (i : Int) < (m0 : Int) := by omega
            obtain ⟨⟨x, sum⟩, hp⟩ : ∃ p, L[i]? = some p := ⟨_, List.getElem?_eq_getElem (by omega)⟩
            obtain ⟨hx, hsum, hin⟩ := st.told i _ hp
            have hx : x < 20 := hx
            obtain ⟨ln, lb⟩ := st.refs.sums _ (List.mem_of_getElem? hp)
            obtain ⟨ao2, cap2, e2, _, hget⟩ := st.refs.form
            obtain ⟨rfl, rfl⟩ : ao = ao2 ∧ cap = cap2 := by injection e2 with q1 _ q3; exact ⟨q1, q3⟩
            obtain ⟨g, rfl, rg⟩ := hget i _ hp
            obtain ⟨hpi, pb, po, rfl, cP0⟩ := y0.out i (by have := hm0.out; omega)
            have cg := pool_get st.st (by have := st.le.texts; omega) x (by omega) sum ln lb
            obtain ⟨_, hd, _⟩ := st.st.p.disk
            obtain ⟨hl1, hl2⟩ := hd.look (s := s.start + x) (by rw [st.start]; omega)
            have hxn : x < s.n := by rw [st.n]; exact hx
            have ir : (Tryd.prog.info? 76).map (·.size) = some (refL x sum).length := infoRef x ln
            clear e2 hget hp hd
            generalize byt t0 i = pi at *
            replace B := Lib.hid B
            replace st := Lib.hid st
            replace sa := Lib.hid sa
            replace hLi := Lib.hid hLi
            replace hsum := Lib.hid hsum
            replace hin := Lib.hid hin
            replace ln := Lib.hid ln
            replace lb := Lib.hid lb
            replace rg := Lib.hid rg
            replace cg := Lib.hid cg
            replace hl1 := Lib.hid hl1
            replace hl2 := Lib.hid hl2
            go_wp2_with (refine wpList_load_mid (by rfl) 76 (.tmp 121) rfl g (i * 33) rfl (refL x sum) _ rg.out Tryd.underlying76 rfl ir ?_)
            refine cg.out.mono ?_
            rintro e w3 ⟨s3, R3, st3, hR3, U3, h3⟩
            rcases h3 with ⟨h, _⟩ | ⟨_, h, _⟩ | ⟨_, _, rfl, h3⟩
            · exact absurd h (by omega)
            · exact absurd h (by rw [st.out.up]; decide)
            have cP3 : w3.drew.cell? ⟨pb, po + i, none⟩ = some (.int .u8 (pi : Int)) := (st3.low.cell (block_lt_of_cell cP0)).trans cP0
            have S3 : ToldSt w w3.drew l R3 _ (k + (i + 1)) (.slice (some ⟨g, 0, none⟩) m cap) L (byt t0) := (st.out.turn st3 hR3 U3 rfl rfl (st.out.le.add _) st.out.up st.out.calm (fun t ht => mem_addT_old ht) (st.out.short.add (by have := hl1.out; omega))).below (Below.refl _ _).drew
            have hin3 : s.D.look (s.start + x) ∈ addT s.T (s.D.look (s.start + x)) ∧ fullT pi 0 ∈ addT s.T (s.D.look (s.start + x)) := ⟨mem_addT_self _ _, mem_addT_old hin.out⟩
            clear st3 hR3 cg rg
            rcases h3 with ⟨hne, rfl⟩ | ⟨heq, g2, c2', rfl, htx⟩
            · have T0 : True := trivial
              replace S3 := Lib.hid S3
              replace hin3 := Lib.hid hin3
              replace U3 := Lib.hid U3
              replace hne := Lib.hid hne
              go_wp2_with fail
              refine wp_region_held_drew (S := (fun _ => True)) (by kernel_rfl) (trivial) (fun hHeld => ?_)
              refine held_take (i := 0) (v := ?_) rfl (by kernel_rfl) (by kernel_rfl) (by kernel_rfl) (fun _ _ _ h => h) (Or.inl ⟨by rfl, ?_⟩) (by assumption) ?_
              rotate_left
              · intro w hSw; (try dsimp only at hSw); go_simp; try with_reducible rfl
              try simp only [Act.put, List.setIfInBounds_toArray, List.set_cons_zero, List.set_cons_succ]
              refine held_take (i := 1) (v := ?_) rfl (by kernel_rfl) (by kernel_rfl) (by kernel_rfl) (fun _ _ _ h => h) (Or.inl ⟨by rfl, ?_⟩) (by assumption) ?_
              rotate_left
              · intro w hSw; (try dsimp only at hSw); go_simp; try with_reducible rfl
              try simp only [Act.put, List.setIfInBounds_toArray, List.set_cons_zero, List.set_cons_succ]
              refine held_take (i := 2) (v := ?_) rfl (by kernel_rfl) (by kernel_rfl) (by kernel_rfl) (fun _ _ _ h => h) (Or.inl ⟨by rfl, ?_⟩) (by assumption) ?_
              rotate_left
              · intro w hSw; (try dsimp only at hSw); go_simp; try with_reducible rfl
              try simp only [Act.put, List.setIfInBounds_toArray, List.set_cons_zero, List.set_cons_succ]
              refine held_take (i := 3) (v := _) rfl (by kernel_rfl) (by kernel_rfl) (by kernel_rfl) (fun _ _ _ h => h) (Or.inr ⟨by rfl, rfl⟩) (by assumption) ?_
              try simp only [Act.put, List.setIfInBounds_toArray, List.set_cons_zero, List.set_cons_succ]
              refine held_take (i := 4) (v := _) rfl (by kernel_rfl) (by kernel_rfl) (by kernel_rfl) (fun _ _ _ h => h) (Or.inr ⟨by rfl, rfl⟩) (by assumption) ?_
              try simp only [Act.put, List.setIfInBounds_toArray, List.set_cons_zero, List.set_cons_succ]
              refine held_take (i := 5) (v := _) rfl (by kernel_rfl) (by kernel_rfl) (by kernel_rfl) (fun _ _ _ h => h) (Or.inr ⟨by rfl, rfl⟩) (by assumption) ?_
              try simp only [Act.put, List.setIfInBounds_toArray, List.set_cons_zero, List.set_cons_succ]
              refine held_take (i := 6) (v := _) rfl (by kernel_rfl) (by kernel_rfl) (by kernel_rfl) (fun _ _ _ h => h) (Or.inr ⟨by rfl, rfl⟩) (by assumption) ?_
              try simp only [Act.put, List.setIfInBounds_toArray, List.set_cons_zero, List.set_cons_succ]
              refine held_take (i := 7) (v := _) rfl (by kernel_rfl) (by kernel_rfl) (by kernel_rfl) (fun _ _ _ h => h) (Or.inr ⟨by rfl, rfl⟩) (by assumption) ?_
              try simp only [Act.put, List.setIfInBounds_toArray, List.set_cons_zero, List.set_cons_succ]
              refine held_take (i := 8) (v := _) rfl (by kernel_rfl) (by kernel_rfl) (by kernel_rfl) (fun _ _ _ h => h) (Or.inr ⟨by rfl, rfl⟩) (by assumption) ?_
              try simp only [Act.put, List.setIfInBounds_toArray, List.set_cons_zero, List.set_cons_succ]
              refine held_take (i := 9) (v := _) rfl (by kernel_rfl) (by kernel_rfl) (by kernel_rfl) (fun _ _ _ h => h) (Or.inr ⟨by rfl, rfl⟩) (by assumption) ?_
              try simp only [Act.put, List.setIfInBounds_toArray, List.set_cons_zero, List.set_cons_succ]
              refine held_take (i := 10) (v := _) rfl (by kernel_rfl) (by kernel_rfl) (by kernel_rfl) (fun _ _ _ h => h) (Or.inr ⟨by rfl, rfl⟩) (by assumption) ?_
              try simp only [Act.put, List.setIfInBounds_toArray, List.set_cons_zero, List.set_cons_succ]
              refine held_take (i := 11) (v := _) rfl (by kernel_rfl) (by kernel_rfl) (by kernel_rfl) (fun _ _ _ h => h) (Or.inr ⟨by rfl, rfl⟩) (by assumption) ?_
              try simp only [Act.put, List.setIfInBounds_toArray, List.set_cons_zero, List.set_cons_succ]
              refine held_take (i := 12) (v := ?_) rfl (by kernel_rfl) (by kernel_rfl) (by kernel_rfl) (fun _ _ _ h => h) (Or.inl ⟨by rfl, ?_⟩) (by assumption) ?_
              rotate_left
              · intro w hSw; (try dsimp only at hSw); go_simp; try with_reducible rfl
              try simp only [Act.put, List.setIfInBounds_toArray, List.set_cons_zero, List.set_cons_succ]
              refine held_take (i := 13) (v := ?_) rfl (by kernel_rfl) (by kernel_rfl) (by kernel_rfl) (fun _ _ _ h => h) (Or.inl ⟨by rfl, ?_⟩) (by assumption) ?_
              rotate_left
              · intro w hSw; (try dsimp only at hSw); go_simp; try with_reducible rfl
              try simp only [Act.put, List.setIfInBounds_toArray, List.set_cons_zero, List.set_cons_succ]
              refine held_take (i := 14) (v := _) rfl (by kernel_rfl) (by kernel_rfl) (by kernel_rfl) (fun _ _ _ h => h) (Or.inr ⟨by rfl, rfl⟩) (by assumption) ?_
              try simp only [Act.put, List.setIfInBounds_toArray, List.set_cons_zero, List.set_cons_succ]
              refine held_take (i := 15) (v := _) rfl (by kernel_rfl) (by kernel_rfl) (by kernel_rfl) (fun _ _ _ h => h) (Or.inr ⟨by rfl, rfl⟩) (by assumption) ?_
              try simp only [Act.put, List.setIfInBounds_toArray, List.set_cons_zero, List.set_cons_succ]
              refine held_take (i := 16) (v := _) rfl (by kernel_rfl) (by kernel_rfl) (by kernel_rfl) (fun _ _ _ h => h) (Or.inr ⟨by rfl, rfl⟩) (by assumption) ?_
              try simp only [Act.put, List.setIfInBounds_toArray, List.set_cons_zero, List.set_cons_succ]
              refine held_take (i := 17) (v := ?_) rfl (by kernel_rfl) (by kernel_rfl) (by kernel_rfl) (fun _ _ _ h => h) (Or.inl ⟨by rfl, ?_⟩) (by assumption) ?_
              rotate_left
              · intro w hSw; (try dsimp only at hSw); go_simp; try with_reducible rfl
              try simp only [Act.put, List.setIfInBounds_toArray, List.set_cons_zero, List.set_cons_succ]
              refine wpAnyH_done (by kernel_rfl) ?_ _
              clear hHeld
              go_wp2_with fail
              go_roundw
              case rel => exact ⟨i + 1, by omega, by go_num, ⟨R3, _, L, S3.out, hLi.out⟩⟩
              case measure => simp [intOf]; omega
            · have T3 : TextAt w3.drew (.slice (some ⟨g2, 0, none⟩) 512 c2') (s.D.look (s.start + x)) := (htx w3 (Upd.refl _ _)).drew
              generalize s.D.look (s.start + x) = T at *
              clear htx
              have cfl := fun wx => full_loop wx pi hpi 0
              have sd := str_dec (fun y hy => hl2.out y hy) (fullT_small hpi 0)
              have sl := str_lst (fun y hy => hl2.out y hy) (fullT_small hpi 0)
              have qe : (T == fullT pi 0) = false → (clashOf (addT s.T T)).isSome = true := fun hne => by
                cases hc : clashOf (addT s.T T) with
                | some c => rfl
                | none =>
                  have := clashOf_none hc _ hin3.1 _ hin3.2 (heq.trans hsum.out)
                  rw [this] at hne
                  simp at hne
              replace S3 := Lib.hid S3
              replace hin3 := Lib.hid hin3
              replace U3 := Lib.hid U3
              replace heq := Lib.hid heq
              replace T3 := Lib.hid T3
              replace cfl := Lib.hid cfl
              go_wp2_with fail
              refine wp_region_held_drew (S := (fun w' => TextAt w' (.slice (some ⟨g2, 0, none⟩) 512 c2') T ∧ w'.cell? ⟨pb, po + i, none⟩ = some (.int .u8 (pi : Int)))) (by kernel_rfl) (⟨T3.out, cP3⟩) (fun hHeld => ?_)
              refine held_take (i := 0) (v := ?_) rfl (by kernel_rfl) (by kernel_rfl) (by kernel_rfl) (fun _ _ _ h => h) (Or.inl ⟨by rfl, ?_⟩) (by assumption) ?_
              rotate_left
              · intro w hSw; (try dsimp only at hSw); go_simp; try with_reducible rfl
              try simp only [Act.put, List.setIfInBounds_toArray, List.set_cons_zero, List.set_cons_succ]
              refine held_take (i := 1) (v := ?_) rfl (by kernel_rfl) (by kernel_rfl) (by kernel_rfl) (fun _ _ _ h => h) (Or.inl ⟨by rfl, ?_⟩) (by assumption) ?_
              rotate_left
              · intro w hSw; (try dsimp only at hSw); go_simp; try with_reducible rfl
              try simp only [Act.put, List.setIfInBounds_toArray, List.set_cons_zero, List.set_cons_succ]
              refine held_take (i := 2) (v := ?_) rfl (by kernel_rfl) (by kernel_rfl) (by kernel_rfl) (fun _ _ _ h => h) (Or.inl ⟨by rfl, ?_⟩) (by assumption) ?_
              rotate_left
              · intro w hSw; (try dsimp only at hSw); go_simp; try with_reducible rfl
              try simp only [Act.put, List.setIfInBounds_toArray, List.set_cons_zero, List.set_cons_succ]
              refine held_take (i := 3) (v := ?_) rfl (by kernel_rfl) (by kernel_rfl) (by kernel_rfl) (fun _ _ _ h => h) (Or.inl ⟨by rfl, ?_⟩) (by assumption) ?_
              rotate_left
              · intro w hSw; (try dsimp only at hSw); go_simp; try with_reducible rfl
              try simp only [Act.put, List.setIfInBounds_toArray, List.set_cons_zero, List.set_cons_succ]
              refine held_take (i := 4) (v := _) rfl (by kernel_rfl) (by kernel_rfl) (by kernel_rfl) (fun _ _ _ h => h) (yieldsIf_str (by rfl) rfl rfl (v := .slice (some ⟨g2, 0, none⟩) 512 c2') (fun w' h => h.1)) (by assumption) ?_
              try simp only [Act.put, List.setIfInBounds_toArray, List.set_cons_zero, List.set_cons_succ]
              refine held_take (i := 5) (v := ?_) rfl (by kernel_rfl) (by kernel_rfl) (by kernel_rfl) (fun _ _ _ h => h) (Or.inl ⟨by rfl, ?_⟩) (by assumption) ?_
              rotate_left
              · intro w hSw; (try dsimp only at hSw); go_simp; try with_reducible rfl
              try simp only [Act.put, List.setIfInBounds_toArray, List.set_cons_zero, List.set_cons_succ]
              refine held_take (i := 6) (v := ?_) rfl (by kernel_rfl) (by kernel_rfl) (by kernel_rfl) (fun _ _ _ h => h) (Or.inl ⟨by rfl, ?_⟩) (by assumption) ?_
              rotate_left
              · intro w hSw; (try dsimp only at hSw); go_simp; try with_reducible rfl
              try simp only [Act.put, List.setIfInBounds_toArray, List.set_cons_zero, List.set_cons_succ]
              refine held_take (i := 7) (v := ?_) rfl (by kernel_rfl) (by kernel_rfl) (by kernel_rfl) (fun _ _ _ h => h) (Or.inl ⟨by rfl, ?_⟩) (by assumption) ?_
              rotate_left
              · intro w hSw; (try dsimp only at hSw); go_simp; try with_reducible rfl
              try simp only [Act.put, List.setIfInBounds_toArray, List.set_cons_zero, List.set_cons_succ]
              refine held_take (i := 8) (v := ?_) rfl (by kernel_rfl) (by kernel_rfl) (by kernel_rfl) (fun _ _ _ h => h) (Or.inl ⟨by rfl, ?_⟩) (by assumption) ?_
              rotate_left
              · intro w hSw; (try dsimp only at hSw); go_simp; try with_reducible rfl
              try simp only [Act.put, List.setIfInBounds_toArray, List.set_cons_zero, List.set_cons_succ]
              refine held_ready (i := 9) rfl (by kernel_rfl) (fun K hK => ?_)
              go_simp
              refine (cfl.out _).mono ?_
              rintro e w4 ⟨v4, rfl, o4, B4, t4⟩
              have T4 := T3.out.below B4
              have cP4 := (B4.cell (block_lt_of_cell cP3)).trans cP3
              have S4 := S3.out.below B4
              clear cP3 T3 S3 B4
              replace T4 := Lib.hid T4
              replace S4 := Lib.hid S4
              replace t4 := Lib.hid t4
              refine hK.out _ _ (⟨T4.out, cP4⟩) (fun hHeldN => ?_)
              clear hHeld hK K
              have hHeld := hHeldN
              clear hHeldN
              try simp only [Act.put, List.setIfInBounds_toArray, List.set_cons_zero, List.set_cons_succ]
              refine held_ready (i := 10) rfl (by kernel_rfl) (fun K hK => ?_)
              rw [if_pos (by rfl)]
              refine wp_str rfl rfl t4.out ?_
              refine hK.out _ _ (⟨T4.out, cP4⟩) (fun hHeldN => ?_)
              clear hHeld hK K
              have hHeld := hHeldN
              clear hHeldN
              try simp only [Act.put, List.setIfInBounds_toArray, List.set_cons_zero, List.set_cons_succ]
              generalize (T == fullT pi 0) = qq at *
              cases qq with
              | true =>
                refine held_take (i := 11) (v := ?_) rfl (by kernel_rfl) (by kernel_rfl) (by kernel_rfl) (fun _ _ _ h => h) (Or.inl ⟨by rfl, ?_⟩) (by assumption) ?_
                rotate_left
                · intro w hSw; (try dsimp only at hSw); go_simp; try with_reducible rfl
                try simp only [Act.put, List.setIfInBounds_toArray, List.set_cons_zero, List.set_cons_succ]
                refine held_take (i := 12) (v := ?_) rfl (by kernel_rfl) (by kernel_rfl) (by kernel_rfl) (fun _ _ _ h => h) (Or.inl ⟨by rfl, ?_⟩) (by assumption) ?_
                rotate_left
                · intro w hSw; (try dsimp only at hSw); go_simp; try with_reducible rfl
                try simp only [Act.put, List.setIfInBounds_toArray, List.set_cons_zero, List.set_cons_succ]
                refine held_take (i := 13) (v := ?_) rfl (by kernel_rfl) (by kernel_rfl) (by kernel_rfl) (fun _ _ _ h => h) (Or.inl ⟨by rfl, ?_⟩) (by assumption) ?_
                rotate_left
                · intro w hSw; (try dsimp only at hSw); go_simp; try with_reducible rfl
                try simp only [Act.put, List.setIfInBounds_toArray, List.set_cons_zero, List.set_cons_succ]
                refine held_take (i := 14) (v := _) rfl (by kernel_rfl) (by kernel_rfl) (by kernel_rfl) (fun _ _ _ h => h) (Or.inr ⟨by rfl, rfl⟩) (by assumption) ?_
                try simp only [Act.put, List.setIfInBounds_toArray, List.set_cons_zero, List.set_cons_succ]
                refine held_take (i := 15) (v := _) rfl (by kernel_rfl) (by kernel_rfl) (by kernel_rfl) (fun _ _ _ h => h) (Or.inr ⟨by rfl, rfl⟩) (by assumption) ?_
                try simp only [Act.put, List.setIfInBounds_toArray, List.set_cons_zero, List.set_cons_succ]
                refine held_take (i := 16) (v := _) rfl (by kernel_rfl) (by kernel_rfl) (by kernel_rfl) (fun _ _ _ h => h) (Or.inr ⟨by rfl, rfl⟩) (by assumption) ?_
                try simp only [Act.put, List.setIfInBounds_toArray, List.set_cons_zero, List.set_cons_succ]
                refine held_take (i := 17) (v := ?_) rfl (by kernel_rfl) (by kernel_rfl) (by kernel_rfl) (fun _ _ _ h => h) (Or.inl ⟨by rfl, ?_⟩) (by assumption) ?_
                rotate_left
                · intro w hSw; (try dsimp only at hSw); go_simp; try with_reducible rfl
                try simp only [Act.put, List.setIfInBounds_toArray, List.set_cons_zero, List.set_cons_succ]
                refine wpAnyH_done (by kernel_rfl) ?_ _
                clear hHeld
                go_wp2_with fail
                go_roundw
                case rel => exact ⟨i + 1, by omega, by go_num, ⟨R3, _, L, S4.out, hLi.out⟩⟩
                case measure => simp [intOf]; omega
              | false =>
                refine held_take (i := 11) (v := ?_) rfl (by kernel_rfl) (by kernel_rfl) (by kernel_rfl) (fun _ _ _ h => h) (Or.inl ⟨by rfl, ?_⟩) (by assumption) ?_
                rotate_left
                · intro w hSw; (try dsimp only at hSw); go_simp; try with_reducible rfl
                try simp only [Act.put, List.setIfInBounds_toArray, List.set_cons_zero, List.set_cons_succ]
                refine held_take (i := 12) (v := ?_) rfl (by kernel_rfl) (by kernel_rfl) (by kernel_rfl) (fun _ _ _ h => h) (Or.inl ⟨by rfl, ?_⟩) (by assumption) ?_
                rotate_left
                · intro w hSw; (try dsimp only at hSw); go_simp; try with_reducible rfl
                try simp only [Act.put, List.setIfInBounds_toArray, List.set_cons_zero, List.set_cons_succ]
                refine held_take (i := 13) (v := ?_) rfl (by kernel_rfl) (by kernel_rfl) (by kernel_rfl) (fun _ _ _ h => h) (Or.inl ⟨by rfl, ?_⟩) (by assumption) ?_
                rotate_left
                · intro w hSw; (try dsimp only at hSw); go_simp; try with_reducible rfl
                try simp only [Act.put, List.setIfInBounds_toArray, List.set_cons_zero, List.set_cons_succ]
                refine held_take (i := 14) (v := ?_) rfl (by kernel_rfl) (by kernel_rfl) (by kernel_rfl) (fun _ _ _ h => h) (Or.inl ⟨by rfl, ?_⟩) (by assumption) ?_
                rotate_left
                · intro w hSw; (try dsimp only at hSw); go_simp; try with_reducible rfl
                try simp only [Act.put, List.setIfInBounds_toArray, List.set_cons_zero, List.set_cons_succ]
                have cc := pclash_at S4.out.st.p S4.out.short
                rw [show ({ s with T := addT s.T T } : Ps).T = addT s.T T from rfl, qe rfl] at cc
                replace cc := Lib.hid cc
                refine held_ready (i := 15) rfl (by kernel_rfl) (fun K hK => ?_)
                go_simp
                refine cc.out.mono ?_
                rintro e w5 ⟨rfl, B5⟩
                have T5 := T4.out.below B5
                have cP5 := (B5.cell (block_lt_of_cell cP4)).trans cP4
                have S5 := S4.out.below B5
                clear cP4 T4 S4 B5
                replace T5 := Lib.hid T5
                replace S5 := Lib.hid S5
                refine hK.out _ _ (⟨T5.out, cP5⟩) (fun hHeldN => ?_)
                clear hHeld hK K
                have hHeld := hHeldN
                clear hHeldN
                try simp only [Act.put, List.setIfInBounds_toArray, List.set_cons_zero, List.set_cons_succ]
                refine held_take (i := 16) (v := ?_) rfl (by kernel_rfl) (by kernel_rfl) (by kernel_rfl) (fun _ _ _ h => h) (Or.inl ⟨by rfl, ?_⟩) (by assumption) ?_
                rotate_left
                · intro w hSw; (try dsimp only at hSw); go_simp; try with_reducible rfl
                try simp only [Act.put, List.setIfInBounds_toArray, List.set_cons_zero, List.set_cons_succ]
                refine held_take (i := 17) (v := ?_) rfl (by kernel_rfl) (by kernel_rfl) (by kernel_rfl) (fun _ _ _ h => h) (Or.inl ⟨by rfl, ?_⟩) (by assumption) ?_
                rotate_left
                · intro w hSw; (try dsimp only at hSw); go_simp; try with_reducible rfl
                try simp only [Act.put, List.setIfInBounds_toArray, List.set_cons_zero, List.set_cons_succ]
                refine wpAnyH_done (by kernel_rfl) ?_ _
                clear hHeld
                go_wp2_with fail
                go_roundw
                case rel => exact ⟨i + 1, by omega, by go_num, ⟨R3, _, L, S5.out, hLi.out⟩⟩
                case measure => simp [intOf]; omega
          · have d1 : decide ((i : Int) < (m : Int)) = false := decide_eq_false (by omega)
            have al := alive_any18 wr (hT.out.below B)
            clear st sa hLi
            replace B := Lib.hid B
            replace al := Lib.hid al
            go_wp2_with fail
            refine al.out.mono ?_
            rintro e w3 ⟨rfl, B3⟩
            have C3 := B.out.trans (B3.mono B.out.size)
            replace C3 := Lib.hid C3
            go_wp2_with fail
            go_ret
            exact ⟨rfl, C3.out⟩
end Go.Proofs.YtjhfoddhpmmjoaaDoor
