/-
  xts: sectors turned and turned back. Conditions: the ciphers lie in blocks of their own; a sector's length is one.
-/
import Derived.Test.YtecmagenlbnchaaQWrapWraps07
namespace Go.Proofs.Ytecmagenlbnchaa
set_option maxRecDepth 100000
open Go.RowKit

set_option maxHeartbeats 4000000 in
set_option maxRecDepth 100000 in
theorem xall_turn (w : World) (b : Nat) (V W : Nat → Nat) (h : XtsAt w b V W) (hV : ∀ i, V i < 256) (hW : ∀ i, W i < 256) (p : Nat) (hp : CipherAt w p V) (tw : Nat → Nat) (ht : Bytes16 tw) (ao : Option Addr) (l : List Nat) (n cap : Nat) (en : l.length = n) (hl : TextAt w (.slice ao n cap) l) (hs : sectorB n = true) :
    Calls Try.prog 54 #[.pointer (some ⟨b, 0, none⟩), .agg (u8s (tab tw)), .slice ao n cap, .func (.func 55) #[.pointer (some ⟨p, 0, none⟩)] #[]] w fun e w' => ∃ v, e = .returned (.tuple #[v, .int .i64 0]) ∧ Own w' w.heap.size 5 v (u8l (bytesOf (sec (turnF V) (turnF W tw) (byt l)) n)) ∧ Below w.heap.size w w' := by
  obtain ⟨p1, q, hbk, hc1, hc2⟩ := h.ex
  obtain ⟨hn0, hn16, hnm⟩ := of_decide_eq_true hs
  have hm : ((n : Int)).tmod 16 = 0 := by rw [Int.tmod_eq_emod_of_nonneg (by omega)]; omega
  have d0 : ((n : Int) == 0) = false := beq_eq_false_iff_ne.2 (by omega)
  have d2 : decide ((n : Int) > 65536) = false := decide_eq_false (by omega)
  have r0 : RowB (w.alloc (.cells (u8s (tab tw)) 91)) w.heap.size 91 (tab tw) := heap_alloc_new _ _
  have rd : RowB (w.alloc (.cells (u8s (tab tw)) 91)).drew w.heap.size 91 (tab tw) := r0
  have low : Below w.heap.size w (w.alloc (.cells (u8s (tab tw)) 91)).drew := ((Below.refl _ _).alloc (Nat.le_refl _) _).drew
  have cq := (cell_of_row _ _ 1 _ _ _ ((low.block b h.lt).trans hbk)).trans rfl
  have it := info16' tw
  have c2 := Lib.hid (turn_any (hc2.below low (Nat.le_refl _)) hW tw ht)
  replace h := Lib.hid h
  replace hV := Lib.hid hV
  replace hW := Lib.hid hW
  replace hp := Lib.hid hp
  replace ht := Lib.hid ht
  replace hl := Lib.hid hl
  replace hs := Lib.hid hs
  replace en := Lib.hid en
  replace hn0 := Lib.hid hn0
  replace hn16 := Lib.hid hn16
  replace hnm := Lib.hid hnm
  replace r0 := Lib.hid r0
  replace low := Lib.hid low
  replace hbk := Lib.hid hbk
  replace hc1 := Lib.hid hc1
  replace hc2 := Lib.hid hc2
  go_enter Try.func54, Try.ntmps54
  go_wp2_with fail
  refine wp_region_held_drew (S := (fun w' => RowB w' w.heap.size 91 (tab tw) ∧ w'.cell? ⟨b, 1, none⟩ = some (.pointer (some ⟨q, 0, none⟩)))) (by kernel_rfl) (⟨rd, cq⟩) (fun hHeld => ?_)
  refine held_take (i := 0) (v := ?_) rfl (by kernel_rfl) (by kernel_rfl) (by kernel_rfl) (fun _ _ _ h => h) (Or.inl ⟨by rfl, ?_⟩) (by assumption) ?_
  rotate_left
  · intro w hSw; (try dsimp only at hSw); go_simp; try with_reducible rfl
  try simp only [Act.put, List.setIfInBounds_toArray, List.set_cons_zero, List.set_cons_succ]
  refine held_take (i := 1) (v := ?_) rfl (by kernel_rfl) (by kernel_rfl) (by kernel_rfl) (fun _ _ _ h => h) (Or.inl ⟨by rfl, ?_⟩) (by assumption) ?_
  rotate_left
  · intro w hSw; (try dsimp only at hSw); go_simp; try with_reducible rfl
  try simp only [Act.put, List.setIfInBounds_toArray, List.set_cons_zero, List.set_cons_succ]
  refine held_take (i := 2) (v := ?_) rfl (by kernel_rfl) (by kernel_rfl) (by kernel_rfl) (fun _ _ _ h => h) (Or.inl ⟨by rfl, ?_⟩) (by assumption) ?_
  rotate_left
  · intro w hSw; (try dsimp only at hSw); go_simp; try with_reducible rfl
  try simp only [Act.put, List.setIfInBounds_toArray, List.set_cons_zero, List.set_cons_succ]
  refine held_take (i := 3) (v := ?_) rfl (by kernel_rfl) (by kernel_rfl) (by kernel_rfl) (fun _ _ _ h => h) (Or.inl ⟨by rfl, ?_⟩) (by assumption) ?_
  rotate_left
  · intro w hSw; (try dsimp only at hSw); go_simp; try with_reducible rfl
  try simp only [Act.put, List.setIfInBounds_toArray, List.set_cons_zero, List.set_cons_succ]
  refine held_take (i := 4) (v := _) rfl (by kernel_rfl) (by kernel_rfl) (by kernel_rfl) (fun _ _ _ h => h) (yieldsIf_row (by rfl) rfl rfl Try.underlying91 it (fun w' h => h.1)) (by assumption) ?_
  try simp only [Act.put, List.setIfInBounds_toArray, List.set_cons_zero, List.set_cons_succ]
  refine held_ready2 (i := 5) (j := 6) rfl rfl (by kernel_rfl) (fun K hK => ?_) (fun K hK => ?_)
  · go_simp
    refine c2.out.mono ?_
    rintro e w2 ⟨rfl, B2⟩
    have rd2 := rd.below B2 rd.lt
    have low2 := low.out.trans (B2.mono low.out.size)
    have cq2 := (B2.cell (block_lt_of_cell cq)).trans cq
    replace B2 := Lib.hid B2
    replace low2 := Lib.hid low2
    refine hK.out _ _ (⟨rd2, cq2⟩) (fun hHeldN => ?_)
    clear hHeld hK K
    have hHeld := hHeldN
    clear hHeldN
    try simp only [Act.put, List.setIfInBounds_toArray, List.set_cons_zero, List.set_cons_succ]
    refine held_ready (i := 6) rfl (by kernel_rfl) (fun K hK => ?_)
    go_simp
    have low3 := low2.out.alloc low2.out.size (.cells (u8s (List.replicate 16 0)) 91)
    have rd3 := rd2.alloc (.cells (u8s (List.replicate 16 0)) 91)
    have cq3 := (((Below.refl w2.heap.size w2).alloc (Nat.le_refl _) (.cells (u8s (List.replicate 16 0)) 91)).cell (block_lt_of_cell cq2)).trans cq2
    have z3 : RowB (w2.alloc (.cells (u8s (List.replicate 16 0)) 91)) w2.heap.size 91 (List.replicate 16 0) := heap_alloc_new _ _
    have hg : w.heap.size ≤ w2.heap.size := low2.out.size
    have hq : w.heap.size ≠ w2.heap.size := by have := rd2.lt; omega
    have hb : b ≠ w2.heap.size := by have := block_lt_of_cell cq2; simp only at this; omega
    replace low3 := Lib.hid low3
    replace hg := Lib.hid hg
    replace hq := Lib.hid hq
    replace hb := Lib.hid hb
    refine hK.out _ _ (⟨rd3, cq3⟩) (fun hHeldN => ?_)
    clear hHeld hK K
    have hHeld := hHeldN
    clear hHeldN
    try simp only [Act.put, List.setIfInBounds_toArray, List.set_cons_zero, List.set_cons_succ]
    refine held_ready (i := 7) rfl (by kernel_rfl) (fun K hK => ?_)
    rw [if_pos (by rfl)]
    refine wp_store_s 91 (.tmp 10) (.tmp 35) rfl w2.heap.size (tab (turnF W tw)) rfl rfl 91 _ z3 (info16' _) (by rw [size_tab]; rfl) ?_
    intro w5 R5 U5
    have rd5 : RowB w5 w.heap.size 91 (tab tw) := rd3.other (U5.out.block _ rd3.lt hq.out)
    have cq5 := (U5.out.cell (block_lt_of_cell cq3) (show ¬ (b = w2.heap.size) from hb.out)).trans cq3
    have low5 := low3.out.trans (U5.out.below (fun k hk e => by have := hg.out; omega) low3.out.size)
    clear rd rd2 rd3 cq cq2 cq3 c2 low
    generalize w2.heap.size = g at *
    replace U5 := Lib.hid U5
    replace low5 := Lib.hid low5
    refine hK.out _ _ (⟨rd5, cq5⟩) (fun hHeldN => ?_)
    clear hHeld hK K
    have hHeld := hHeldN
    clear hHeldN
    try simp only [Act.put]
    refine wpAnyH_done (by kernel_rfl) ?_ _
    clear hHeld
    have hmk : ∀ x, (Instr.makeSlice 25 (.int .i64 0) (.int .i64 (n : Int))).run Try.prog x = .ok (.slice (some ⟨x.heap.size, 0, none⟩) 0 n) (x.alloc (.cells (u8s (List.replicate n 0)) 5)) := run_make_u8 0 n (Nat.zero_le _) (by have := hnm.out; omega)
    go_wp2_with fail
    clear hmk
    obtain ⟨m, em⟩ : ∃ m, n = 16 * m := ⟨n / 16, by have := hn16.out; omega⟩
    have st0 : SecSt w (w5.alloc (.cells (u8s (List.replicate n 0)) 5)) g w5.heap.size (.slice (some ⟨w5.heap.size, 0, none⟩) 0 n) (maskTo (turnF W tw) 0) (bytesOf (sec (turnF V) (turnF W tw) (byt l)) (16 * 0)) :=
      ⟨R5.out.alloc _, Own.room _ _ (Nat.le_refl _) (by unfold maxLen; have := hnm.out; omega), low5.out.alloc low5.out.size _, hg.out, R5.out.lt, by simp⟩
    have bM := bytes_turn hW.out ht.out
    obtain ⟨M, eM⟩ : ∃ M, M = turnF W tw := ⟨_, rfl⟩
    rw [← eM] at st0 bM
    rw [← eM]
    obtain ⟨F, eF⟩ : ∃ F, F = sec (turnF V) M (byt l) := ⟨_, rfl⟩
    rw [← eF] at st0
    clear R5 hb hq rd5 cq5
    replace st0 := Lib.hid st0
    replace em := Lib.hid em
    replace eM := Lib.hid eM
    replace eF := Lib.hid eF
    replace bM := Lib.hid bM
    replace low5 := Lib.hid low5
    replace hg := Lib.hid hg
    have hlw := hl.out.ex
    obtain ⟨ao', cap', e0, hcap, _, hby⟩ := hlw
    obtain ⟨rfl, rfl⟩ : ao = ao' ∧ cap = cap' := by injection e0 with e1 _ e3; exact ⟨e1, e3⟩
    rw [en.out] at hcap hby
    clear e0
    replace hcap := Lib.hid hcap
    replace hby := Lib.hid hby
    generalize w5.heap.size = Bo at *
    go_loopw [11, 12] (fun v i wr => ∃ k a : Nat, k ≤ m ∧ a = 16 * k ∧ i = .int .i64 a ∧ SecSt w wr g Bo v (maskTo M k) (bytesOf F (16 * k))) (fun _ i _ => n - (intOf i).toNat)
    case atStart => exact ⟨0, 0, Nat.zero_le _, rfl, rfl, st0.out⟩
    case round =>
      clear st0
      obtain ⟨k, a, hk, ea, rfl, st⟩ := hrel
      by_cases hlt : k < m
      · have hn16k : a + 16 ≤ n := by have := em.out; omega
        have hn9 := hnm.out
        have d : decide ((a : Int) < (n : Int)) = true := decide_eq_true (by omega)
        obtain ⟨_, ob, oo, rfl, _⟩ := hby.out 0 (by omega)
        have hcell : ∀ i, i < n → w.cell? ⟨ob, oo + i, none⟩ = some (.int .u8 (byt l i : Nat)) := fun i hi => by
          obtain ⟨_, ob', oo', e, h1⟩ := hby.out i hi
          cases e; exact h1
        have hsm : ∀ i, i < n → byt l i < 256 := fun i hi => (hby.out i hi).1
        have hcut := run_cut_lh (P := Try.prog) Try.underlying25 infoU8s (some ⟨ob, oo, none⟩) n cap a (a + 16) (by omega) (by have := hcap.out; omega) (a : Int) ((a : Int) + 16) rfl (by omega)
        rw [cutA_some (by have := hcap.out; omega), show a + 16 - a = 16 by omega] at hcut
        have hat := fun x => run_arrayAt (P := Try.prog) x 91 5 16 (some ⟨ob, oo + a, none⟩) 16 (cap - a) Try.underlying91 (Nat.le_refl _)
        have f0 : IntKind.i64.wrap ((a : Int) + 16) = (a : Int) + 16 := IntWalk.i64_in _ (by omega)
        have bX : Bytes16 (blk (byt l) k) := fun i hi => hsm _ (by omega)
        have hrg : wr.rangeAt ob (oo + a) (u8l (tab (blk (byt l) k))) := fun j v hv => by
          have h1 := range16 hcell (k := k) (by omega) j v (hv)
          rw [← ea] at h1
          exact (st.low.cell (block_lt_of_cell h1)).trans h1
        have iX := info16' (blk (byt l) k)
        have iX2 : (Try.prog.info? 91).map (·.size) = some (tab (blk (byt l) k)).length := by rw [length_tab]; rfl
        have dn : decide (a < n) = true := decide_eq_true (by omega)
        have en1 : bytesOf F (16 * (k + 1)) = bytesOf F (16 * k) ++ tab (under (turnF V) (maskTo M k) (blk (byt l) k)) := by rw [eF.out]; exact sec_next _ _ _ _
        have nl : (bytesOf F (16 * k)).length = 16 * k := length_bytesOf _ _
        generalize blk (byt l) k = X at *
        replace ea := Lib.hid ea
        replace st := Lib.hid st
        replace hn16k := Lib.hid hn16k
        replace hcell := Lib.hid hcell
        replace hsm := Lib.hid hsm
        replace bX := Lib.hid bX
        replace en1 := Lib.hid en1
        replace nl := Lib.hid nl
        replace hk := Lib.hid hk
        replace hn9 := Lib.hid hn9
        go_wp2_with (first
          | (refine wpList_load_m rfl 91 (.tmp 50) rfl ob (oo + a) rfl (tab X) _ hrg Try.underlying91 rfl iX2 ?_)
          | (refine wpList_store_n (by rfl) 91 (.tmp 13) (.tmp 51) rfl (tab X) rfl rfl iX (by rw [size_tab]; rfl) ?_; intro w6 R6 B6))
        have s6 : BlkSt w w6 g Bo wr.heap.size u11 (maskTo M k) (bytesOf F (16 * k)) (upTo 0 (xor16 X (maskTo M k)) X) :=
          ⟨st.out.below B6.out, by rw [upTo_none]; exact R6.out, Nat.lt_of_lt_of_le st.out.far.2.1 st.out.far.2.2, fun k hk => (st.out.o.lt k hk).2⟩
        have bK := maskTo_lt bM.out k
        have em1 : dblM (maskTo M k) = maskTo M (k + 1) := rfl
        generalize maskTo M k = mk at *
        generalize bytesOf F (16 * k) = out at *
        generalize hpp : wr.heap.size = px at *
        clear R6 B6 hrg iX iX2 hcut hat d dn hpp
        replace st := Lib.hid st
        replace s6 := Lib.hid s6
        replace bK := Lib.hid bK
        replace em1 := Lib.hid em1
        go_loopw [52] (fun iv ws => ∃ i : Nat, i ≤ 16 ∧ iv = .int .i64 i ∧ BlkSt w ws g Bo px u11 mk out (upTo i (xor16 X mk) X)) (fun iv _ => 16 - (intOf iv).toNat)
        case atStart => exact ⟨0, Nat.zero_le _, rfl, s6.out⟩
        case round =>
          clear s6
          obtain ⟨i, hi, rfl, sx⟩ := hrel
          by_cases hlt : i < 16
          ·
            have cx := sx.x.cell (tab_get (upTo i (xor16 X mk) X) hlt)
            have cg := sx.s.m.cell (tab_get mk hlt)
            have fr := sx.x.frozen i
            have ex : upTo i (xor16 X mk) X i = X i := by unfold upTo; rw [if_neg (Nat.lt_irrefl i)]
            have ev := u8_xor_nat (X i) (mk i) (bX.out i hlt) (bK.out i hlt)
            have ez : X i ^^^ mk i = xor16 X mk i := rfl
            have nx := sx.set
            rw [ex] at cx
            rw [ez] at ev
            generalize hy : xor16 X mk i = y at *
            generalize X i = u at *
            generalize mk i = um at *
            replace sx := Lib.hid sx
            replace nx := Lib.hid nx
            replace ez := Lib.hid ez
            replace ex := Lib.hid ex
            replace hy := Lib.hid hy
            go_wp2_with fail
            go_region
            go_wp2_with fail
            go_roundw
            case rel => exact ⟨i + 1, by omega, by go_num, nx.out.drew⟩
            case measure => simp [intOf]; omega
          · obtain rfl : i = 16 := by omega
            have sx2 : BlkSt w wr g Bo px u11 mk out (xor16 X mk) := ⟨sx.s, by have := sx.x; rwa [upTo_all] at this, sx.gp, sx.vp⟩
            have bY := xor16_lt bX.out bK.out
            have iY := info16' (xor16 X mk)
            have x2 := sx2.x
            have ct := Lib.hid (turn_any (hp.out.below sx2.s.low (Nat.le_refl _)) hV.out (xor16 X mk) bY)
            clear sx
            replace sx2 := Lib.hid sx2
            replace bY := Lib.hid bY
            go_wp2_with (refine wpList_load_b (by rfl) 91 (.tmp 13) rfl px rfl 91 (tab (xor16 X mk)) x2 _ Try.underlying91 rfl iY ?_)
            refine ct.out.mono ?_
            rintro e w7 ⟨rfl, B7⟩
            have s7 := sx2.out.below B7
            have x7 := s7.x
            clear ct x2
            replace s7 := Lib.hid s7
            replace B7 := Lib.hid B7
            obtain ⟨Y, eY⟩ : ∃ Y, Y = turnF V (xor16 X mk) := ⟨_, rfl⟩
            have bE := bytes_turn hV.out bY.out
            have iE := info16' Y
            rw [← eY]
            rw [← eY] at bE
            replace bE := Lib.hid bE
            replace eY := Lib.hid eY
            go_wp2_with (refine wpList_store_s (by rfl) 91 (.tmp 13) (.tmp 66) rfl px (tab Y) rfl rfl 91 _ x7 iE (by rw [size_tab, size_tab]) ?_; intro w8 R8 U8)
            have s8 : BlkSt w w8 g Bo px u11 mk out (upTo 0 (xor16 Y mk) Y) := s7.out.put (by rw [upTo_none]; exact R8.out) U8.out
            have eU : xor16 Y mk = under (turnF V) mk X := by rw [eY.out]; rfl
            clear x7 R8 U8 s7 sx2 B7
            replace bX := bE
            clear bY iY
            replace s8 := Lib.hid s8
            replace eU := Lib.hid eU
            generalize hX9 : X = X9 at *
            replace hX9 := Lib.hid hX9
            generalize Y = X at *
            go_loopw [67] (fun iv ws => ∃ i : Nat, i ≤ 16 ∧ iv = .int .i64 i ∧ BlkSt w ws g Bo px u11 mk out (upTo i (xor16 X mk) X)) (fun iv _ => 16 - (intOf iv).toNat)
            case atStart => exact ⟨0, Nat.zero_le _, rfl, s8.out⟩
            case round =>
              clear s8
              obtain ⟨i, hi, rfl, sx⟩ := hrel
              by_cases hlt : i < 16
              ·
                have cx := sx.x.cell (tab_get (upTo i (xor16 X mk) X) hlt)
                have cg := sx.s.m.cell (tab_get mk hlt)
                have fr := sx.x.frozen i
                have ex : upTo i (xor16 X mk) X i = X i := by unfold upTo; rw [if_neg (Nat.lt_irrefl i)]
                have ev := u8_xor_nat (X i) (mk i) (bX.out i hlt) (bK.out i hlt)
                have ez : X i ^^^ mk i = xor16 X mk i := rfl
                have nx := sx.set
                rw [ex] at cx
                rw [ez] at ev
                generalize hy : xor16 X mk i = y at *
                generalize X i = u at *
                generalize mk i = um at *
                replace sx := Lib.hid sx
                replace nx := Lib.hid nx
                replace ez := Lib.hid ez
                replace ex := Lib.hid ex
                replace hy := Lib.hid hy
                go_wp2_with fail
                go_region
                go_wp2_with fail
                go_roundw
                case rel => exact ⟨i + 1, by omega, by go_num, nx.out.drew⟩
                case measure => simp [intOf]; omega
              · obtain rfl : i = 16 := by omega
                have sx3 : BlkSt w wr g Bo px u11 mk out (xor16 X mk) := ⟨sx.s, by have := sx.x; rwa [upTo_all] at this, sx.gp, sx.vp⟩
                clear sx
                obtain ⟨Z, eZ⟩ : ∃ Z, Z = xor16 X mk := ⟨_, rfl⟩
                rw [← eZ] at sx3
                have bZ : Bytes16 Z := by rw [eZ]; exact xor16_lt bX.out bK.out
                have tZ : TextAt wr (.slice (some ⟨px, 0, none⟩) 16 16) (tab Z) := ⟨some ⟨px, 0, none⟩, 16, by rw [length_tab], by rw [length_tab]; exact Nat.le_refl _, fun e => by simp at e, fun i hi => by
                  rw [length_tab] at hi
                  rw [byt_tab Z hi]
                  exact ⟨bZ i hi, px, 0, rfl, by rw [Nat.zero_add]; exact sx3.x.cell (tab_get Z hi)⟩⟩
                have hO := sx3.s.o
                have hB0 := sx3.s.far.2.2
                have lZ : out.length + (tab Z).length ≤ 1000000000 := by rw [length_tab, nl.out]; have := hn9.out; have := hn16k.out; have := ea.out; omega
                clear hlt hi
                replace sx3 := Lib.hid sx3
                replace eZ := Lib.hid eZ
                replace bZ := Lib.hid bZ
                have im := info16' mk
                have im2 := info16' (dblM mk)
                go_wp2_with (first
                  | (refine wpList_append_s (by rfl) (.tmp 79) (.tmp 80) rfl Bo _ u11 out rfl hO (Below.refl _ _) hB0 (.slice (some ⟨px, 0, none⟩) 16 16) (tab Z) rfl tZ lZ ?_; intro v9 w9 O9 B9; have s9 := sx3.out.s.grow O9.out B9.out; have m9 := s9.m; replace s9 := Lib.hid s9)
                  | (refine wpList_load_b (by rfl) 91 (.tmp 10) rfl g rfl 91 (tab mk) m9 _ Try.underlying91 rfl im ?_))
                have cd := Lib.hid (xdouble_any mk bK.out w9)
                refine cd.out.mono ?_
                rintro e wa ⟨rfl, Ba⟩
                have sa := s9.out.below Ba
                have ma := sa.m
                clear m9 cd
                replace sa := Lib.hid sa
                replace Ba := Lib.hid Ba
                go_wp2_with (refine wpList_store_s (by rfl) 91 (.tmp 10) (.tmp 83) rfl g (tab (dblM mk)) rfl rfl 91 _ ma im2 (by rw [size_tab, size_tab]) ?_; intro wb Rb Ub)
                have sb := sa.out.mask Rb.out Ub.out
                have eo : out ++ tab Z = bytesOf F (16 * (k + 1)) := by rw [en1.out, eZ.out, eU.out]
                rw [em1.out, eo] at sb
                replace sb := Lib.hid sb
                replace eo := Lib.hid eo
                go_roundw
                case rel => exact ⟨k + 1, a + 16, by omega, by have := ea.out; omega, by go_num, sb.out⟩
                case measure => simp [intOf]; have := hn16k.out; omega
      · obtain rfl : k = m := by omega
        have ean : a = n := by have := em.out; omega
        subst ean
        have d : decide ((a : Int) < (a : Int)) = false := decide_eq_false (by omega)
        have dn : decide (a < a) = false := decide_eq_false (by omega)
        have hO := st.o
        have low9 := st.low
        have hf := st.far
        have eF2 : bytesOf F (16 * k) = bytesOf (sec (turnF V) (turnF W tw) (byt l)) a := by rw [← ea, eF.out, eM.out]
        rw [eF2] at hO
        replace st := Lib.hid st
        replace hO := Lib.hid hO
        replace low9 := Lib.hid low9
        replace hf := Lib.hid hf
        replace ea := Lib.hid ea
        replace em := Lib.hid em
        replace eF2 := Lib.hid eF2
        go_wp2_with fail
        go_ret2
        exact ⟨_, rfl, hO.out.weaken (by have := hf.out; omega), low9.out⟩
  · go_simp
    have low1 := low.out.alloc low.out.size (.cells (u8s (List.replicate 16 0)) 91)
    have rd1 := rd.alloc (.cells (u8s (List.replicate 16 0)) 91)
    have cq1 := (((Below.refl (w.alloc (.cells (u8s (tab tw)) 91)).drew.heap.size (w.alloc (.cells (u8s (tab tw)) 91)).drew).alloc (Nat.le_refl _) (.cells (u8s (List.replicate 16 0)) 91)).cell (block_lt_of_cell cq)).trans cq
    have z1 : RowB ((w.alloc (.cells (u8s (tab tw)) 91)).drew.alloc (.cells (u8s (List.replicate 16 0)) 91)) (w.heap.size + 1) 91 (List.replicate 16 0) := by
      rw [show w.heap.size + 1 = (w.alloc (.cells (u8s (tab tw)) 91)).drew.heap.size by simp]; exact heap_alloc_new _ _
    have c2b := Lib.hid (turn_any (hc2.out.below low1 (Nat.le_refl _)) hW.out tw ht.out)
    replace low1 := Lib.hid low1
    refine hK.out _ _ (⟨rd1, cq1⟩) (fun hHeldN => ?_)
    clear hHeld hK K
    have hHeld := hHeldN
    clear hHeldN
    try simp only [Act.put, List.setIfInBounds_toArray, List.set_cons_zero, List.set_cons_succ]
    refine held_ready (i := 5) rfl (by kernel_rfl) (fun K hK => ?_)
    go_simp
    refine c2b.out.mono ?_
    rintro e w2 ⟨rfl, B2⟩
    have rd2 := rd1.below B2 rd1.lt
    have z2 := z1.below B2 z1.lt
    have low2 := low1.out.trans (B2.mono low1.out.size)
    have cq2 := (B2.cell (block_lt_of_cell cq1)).trans cq1
    have hg : w.heap.size ≤ w.heap.size + 1 := Nat.le_succ _
    have hb : b ≠ w.heap.size + 1 := by have := h.out.lt; omega
    replace B2 := Lib.hid B2
    replace low2 := Lib.hid low2
    replace hg := Lib.hid hg
    replace hb := Lib.hid hb
    refine hK.out _ _ (⟨rd2, cq2⟩) (fun hHeldN => ?_)
    clear hHeld hK K
    have hHeld := hHeldN
    clear hHeldN
    try simp only [Act.put, List.setIfInBounds_toArray, List.set_cons_zero, List.set_cons_succ]
    refine held_ready (i := 7) rfl (by kernel_rfl) (fun K hK => ?_)
    rw [if_pos (by rfl)]
    refine wp_store_s 91 (.tmp 10) (.tmp 35) rfl (w.heap.size + 1) (tab (turnF W tw)) rfl rfl 91 _ z2 (info16' _) (by rw [size_tab]; rfl) ?_
    intro w5 R5 U5
    have rd5 : RowB w5 w.heap.size 91 (tab tw) := rd2.other (U5.out.block _ rd2.lt (by omega))
    have cq5 := (U5.out.cell (block_lt_of_cell cq2) (show ¬ (b = w.heap.size + 1) from hb.out)).trans cq2
    have low5 := low2.out.trans (U5.out.below (fun k hk e => by omega) low2.out.size)
    have hq := hg
    clear rd rd1 rd2 cq cq1 cq2 c2 c2b low z1 z2
    generalize w.heap.size + 1 = g at *
    replace U5 := Lib.hid U5
    replace low5 := Lib.hid low5
    refine hK.out _ _ (⟨rd5, cq5⟩) (fun hHeldN => ?_)
    clear hHeld hK K
    have hHeld := hHeldN
    clear hHeldN
    try simp only [Act.put]
    refine wpAnyH_done (by kernel_rfl) ?_ _
    clear hHeld
    have hmk : ∀ x, (Instr.makeSlice 25 (.int .i64 0) (.int .i64 (n : Int))).run Try.prog x = .ok (.slice (some ⟨x.heap.size, 0, none⟩) 0 n) (x.alloc (.cells (u8s (List.replicate n 0)) 5)) := run_make_u8 0 n (Nat.zero_le _) (by have := hnm.out; omega)
    go_wp2_with fail
    clear hmk
    obtain ⟨m, em⟩ : ∃ m, n = 16 * m := ⟨n / 16, by have := hn16.out; omega⟩
    have st0 : SecSt w (w5.alloc (.cells (u8s (List.replicate n 0)) 5)) g w5.heap.size (.slice (some ⟨w5.heap.size, 0, none⟩) 0 n) (maskTo (turnF W tw) 0) (bytesOf (sec (turnF V) (turnF W tw) (byt l)) (16 * 0)) :=
      ⟨R5.out.alloc _, Own.room _ _ (Nat.le_refl _) (by unfold maxLen; have := hnm.out; omega), low5.out.alloc low5.out.size _, hg.out, R5.out.lt, by simp⟩
    have bM := bytes_turn hW.out ht.out
    obtain ⟨M, eM⟩ : ∃ M, M = turnF W tw := ⟨_, rfl⟩
    rw [← eM] at st0 bM
    rw [← eM]
    obtain ⟨F, eF⟩ : ∃ F, F = sec (turnF V) M (byt l) := ⟨_, rfl⟩
    rw [← eF] at st0
    clear R5 hb hq rd5 cq5
    replace st0 := Lib.hid st0
    replace em := Lib.hid em
    replace eM := Lib.hid eM
    replace eF := Lib.hid eF
    replace bM := Lib.hid bM
    replace low5 := Lib.hid low5
    replace hg := Lib.hid hg
    have hlw := hl.out.ex
    obtain ⟨ao', cap', e0, hcap, _, hby⟩ := hlw
    obtain ⟨rfl, rfl⟩ : ao = ao' ∧ cap = cap' := by injection e0 with e1 _ e3; exact ⟨e1, e3⟩
    rw [en.out] at hcap hby
    clear e0
    replace hcap := Lib.hid hcap
    replace hby := Lib.hid hby
    generalize w5.heap.size = Bo at *
    go_loopw [11, 12] (fun v i wr => ∃ k a : Nat, k ≤ m ∧ a = 16 * k ∧ i = .int .i64 a ∧ SecSt w wr g Bo v (maskTo M k) (bytesOf F (16 * k))) (fun _ i _ => n - (intOf i).toNat)
    case atStart => exact ⟨0, 0, Nat.zero_le _, rfl, rfl, st0.out⟩
    case round =>
      clear st0
      obtain ⟨k, a, hk, ea, rfl, st⟩ := hrel
      by_cases hlt : k < m
      · have hn16k : a + 16 ≤ n := by have := em.out; omega
        have hn9 := hnm.out
        have d : decide ((a : Int) < (n : Int)) = true := decide_eq_true (by omega)
        obtain ⟨_, ob, oo, rfl, _⟩ := hby.out 0 (by omega)
        have hcell : ∀ i, i < n → w.cell? ⟨ob, oo + i, none⟩ = some (.int .u8 (byt l i : Nat)) := fun i hi => by
          obtain ⟨_, ob', oo', e, h1⟩ := hby.out i hi
          cases e; exact h1
        have hsm : ∀ i, i < n → byt l i < 256 := fun i hi => (hby.out i hi).1
        have hcut := run_cut_lh (P := Try.prog) Try.underlying25 infoU8s (some ⟨ob, oo, none⟩) n cap a (a + 16) (by omega) (by have := hcap.out; omega) (a : Int) ((a : Int) + 16) rfl (by omega)
        rw [cutA_some (by have := hcap.out; omega), show a + 16 - a = 16 by omega] at hcut
        have hat := fun x => run_arrayAt (P := Try.prog) x 91 5 16 (some ⟨ob, oo + a, none⟩) 16 (cap - a) Try.underlying91 (Nat.le_refl _)
        have f0 : IntKind.i64.wrap ((a : Int) + 16) = (a : Int) + 16 := IntWalk.i64_in _ (by omega)
        have bX : Bytes16 (blk (byt l) k) := fun i hi => hsm _ (by omega)
        have hrg : wr.rangeAt ob (oo + a) (u8l (tab (blk (byt l) k))) := fun j v hv => by
          have h1 := range16 hcell (k := k) (by omega) j v (hv)
          rw [← ea] at h1
          exact (st.low.cell (block_lt_of_cell h1)).trans h1
        have iX := info16' (blk (byt l) k)
        have iX2 : (Try.prog.info? 91).map (·.size) = some (tab (blk (byt l) k)).length := by rw [length_tab]; rfl
        have dn : decide (a < n) = true := decide_eq_true (by omega)
        have en1 : bytesOf F (16 * (k + 1)) = bytesOf F (16 * k) ++ tab (under (turnF V) (maskTo M k) (blk (byt l) k)) := by rw [eF.out]; exact sec_next _ _ _ _
        have nl : (bytesOf F (16 * k)).length = 16 * k := length_bytesOf _ _
        generalize blk (byt l) k = X at *
        replace ea := Lib.hid ea
        replace st := Lib.hid st
        replace hn16k := Lib.hid hn16k
        replace hcell := Lib.hid hcell
        replace hsm := Lib.hid hsm
        replace bX := Lib.hid bX
        replace en1 := Lib.hid en1
        replace nl := Lib.hid nl
        replace hk := Lib.hid hk
        replace hn9 := Lib.hid hn9
        go_wp2_with (first
          | (refine wpList_load_m rfl 91 (.tmp 50) rfl ob (oo + a) rfl (tab X) _ hrg Try.underlying91 rfl iX2 ?_)
          | (refine wpList_store_n (by rfl) 91 (.tmp 13) (.tmp 51) rfl (tab X) rfl rfl iX (by rw [size_tab]; rfl) ?_; intro w6 R6 B6))
        have s6 : BlkSt w w6 g Bo wr.heap.size u11 (maskTo M k) (bytesOf F (16 * k)) (upTo 0 (xor16 X (maskTo M k)) X) :=
          ⟨st.out.below B6.out, by rw [upTo_none]; exact R6.out, Nat.lt_of_lt_of_le st.out.far.2.1 st.out.far.2.2, fun k hk => (st.out.o.lt k hk).2⟩
        have bK := maskTo_lt bM.out k
        have em1 : dblM (maskTo M k) = maskTo M (k + 1) := rfl
        generalize maskTo M k = mk at *
        generalize bytesOf F (16 * k) = out at *
        generalize hpp : wr.heap.size = px at *
        clear R6 B6 hrg iX iX2 hcut hat d dn hpp
        replace st := Lib.hid st
        replace s6 := Lib.hid s6
        replace bK := Lib.hid bK
        replace em1 := Lib.hid em1
        go_loopw [52] (fun iv ws => ∃ i : Nat, i ≤ 16 ∧ iv = .int .i64 i ∧ BlkSt w ws g Bo px u11 mk out (upTo i (xor16 X mk) X)) (fun iv _ => 16 - (intOf iv).toNat)
        case atStart => exact ⟨0, Nat.zero_le _, rfl, s6.out⟩
        case round =>
          clear s6
          obtain ⟨i, hi, rfl, sx⟩ := hrel
          by_cases hlt : i < 16
          ·
            have cx := sx.x.cell (tab_get (upTo i (xor16 X mk) X) hlt)
            have cg := sx.s.m.cell (tab_get mk hlt)
            have fr := sx.x.frozen i
            have ex : upTo i (xor16 X mk) X i = X i := by unfold upTo; rw [if_neg (Nat.lt_irrefl i)]
            have ev := u8_xor_nat (X i) (mk i) (bX.out i hlt) (bK.out i hlt)
            have ez : X i ^^^ mk i = xor16 X mk i := rfl
            have nx := sx.set
            rw [ex] at cx
            rw [ez] at ev
            generalize hy : xor16 X mk i = y at *
            generalize X i = u at *
            generalize mk i = um at *
            replace sx := Lib.hid sx
            replace nx := Lib.hid nx
            replace ez := Lib.hid ez
            replace ex := Lib.hid ex
            replace hy := Lib.hid hy
            go_wp2_with fail
            go_region
            go_wp2_with fail
            go_roundw
            case rel => exact ⟨i + 1, by omega, by go_num, nx.out.drew⟩
            case measure => simp [intOf]; omega
          · obtain rfl : i = 16 := by omega
            have sx2 : BlkSt w wr g Bo px u11 mk out (xor16 X mk) := ⟨sx.s, by have := sx.x; rwa [upTo_all] at this, sx.gp, sx.vp⟩
            have bY := xor16_lt bX.out bK.out
            have iY := info16' (xor16 X mk)
            have x2 := sx2.x
            have ct := Lib.hid (turn_any (hp.out.below sx2.s.low (Nat.le_refl _)) hV.out (xor16 X mk) bY)
            clear sx
            replace sx2 := Lib.hid sx2
            replace bY := Lib.hid bY
            go_wp2_with (refine wpList_load_b (by rfl) 91 (.tmp 13) rfl px rfl 91 (tab (xor16 X mk)) x2 _ Try.underlying91 rfl iY ?_)
            refine ct.out.mono ?_
            rintro e w7 ⟨rfl, B7⟩
            have s7 := sx2.out.below B7
            have x7 := s7.x
            clear ct x2
            replace s7 := Lib.hid s7
            replace B7 := Lib.hid B7
            obtain ⟨Y, eY⟩ : ∃ Y, Y = turnF V (xor16 X mk) := ⟨_, rfl⟩
            have bE := bytes_turn hV.out bY.out
            have iE := info16' Y
            rw [← eY]
            rw [← eY] at bE
            replace bE := Lib.hid bE
            replace eY := Lib.hid eY
            go_wp2_with (refine wpList_store_s (by rfl) 91 (.tmp 13) (.tmp 66) rfl px (tab Y) rfl rfl 91 _ x7 iE (by rw [size_tab, size_tab]) ?_; intro w8 R8 U8)
            have s8 : BlkSt w w8 g Bo px u11 mk out (upTo 0 (xor16 Y mk) Y) := s7.out.put (by rw [upTo_none]; exact R8.out) U8.out
            have eU : xor16 Y mk = under (turnF V) mk X := by rw [eY.out]; rfl
            clear x7 R8 U8 s7 sx2 B7
            replace bX := bE
            clear bY iY
            replace s8 := Lib.hid s8
            replace eU := Lib.hid eU
            generalize hX9 : X = X9 at *
            replace hX9 := Lib.hid hX9
            generalize Y = X at *
            go_loopw [67] (fun iv ws => ∃ i : Nat, i ≤ 16 ∧ iv = .int .i64 i ∧ BlkSt w ws g Bo px u11 mk out (upTo i (xor16 X mk) X)) (fun iv _ => 16 - (intOf iv).toNat)
            case atStart => exact ⟨0, Nat.zero_le _, rfl, s8.out⟩
            case round =>
              clear s8
              obtain ⟨i, hi, rfl, sx⟩ := hrel
              by_cases hlt : i < 16
              ·
                have cx := sx.x.cell (tab_get (upTo i (xor16 X mk) X) hlt)
                have cg := sx.s.m.cell (tab_get mk hlt)
                have fr := sx.x.frozen i
                have ex : upTo i (xor16 X mk) X i = X i := by unfold upTo; rw [if_neg (Nat.lt_irrefl i)]
                have ev := u8_xor_nat (X i) (mk i) (bX.out i hlt) (bK.out i hlt)
                have ez : X i ^^^ mk i = xor16 X mk i := rfl
                have nx := sx.set
                rw [ex] at cx
                rw [ez] at ev
                generalize hy : xor16 X mk i = y at *
                generalize X i = u at *
                generalize mk i = um at *
                replace sx := Lib.hid sx
                replace nx := Lib.hid nx
                replace ez := Lib.hid ez
                replace ex := Lib.hid ex
                replace hy := Lib.hid hy
                go_wp2_with fail
                go_region
                go_wp2_with fail
                go_roundw
                case rel => exact ⟨i + 1, by omega, by go_num, nx.out.drew⟩
                case measure => simp [intOf]; omega
              · obtain rfl : i = 16 := by omega
                have sx3 : BlkSt w wr g Bo px u11 mk out (xor16 X mk) := ⟨sx.s, by have := sx.x; rwa [upTo_all] at this, sx.gp, sx.vp⟩
                clear sx
                obtain ⟨Z, eZ⟩ : ∃ Z, Z = xor16 X mk := ⟨_, rfl⟩
                rw [← eZ] at sx3
                have bZ : Bytes16 Z := by rw [eZ]; exact xor16_lt bX.out bK.out
                have tZ : TextAt wr (.slice (some ⟨px, 0, none⟩) 16 16) (tab Z) := ⟨some ⟨px, 0, none⟩, 16, by rw [length_tab], by rw [length_tab]; exact Nat.le_refl _, fun e => by simp at e, fun i hi => by
                  rw [length_tab] at hi
                  rw [byt_tab Z hi]
                  exact ⟨bZ i hi, px, 0, rfl, by rw [Nat.zero_add]; exact sx3.x.cell (tab_get Z hi)⟩⟩
                have hO := sx3.s.o
                have hB0 := sx3.s.far.2.2
                have lZ : out.length + (tab Z).length ≤ 1000000000 := by rw [length_tab, nl.out]; have := hn9.out; have := hn16k.out; have := ea.out; omega
                clear hlt hi
                replace sx3 := Lib.hid sx3
                replace eZ := Lib.hid eZ
                replace bZ := Lib.hid bZ
                have im := info16' mk
                have im2 := info16' (dblM mk)
                go_wp2_with (first
                  | (refine wpList_append_s (by rfl) (.tmp 79) (.tmp 80) rfl Bo _ u11 out rfl hO (Below.refl _ _) hB0 (.slice (some ⟨px, 0, none⟩) 16 16) (tab Z) rfl tZ lZ ?_; intro v9 w9 O9 B9; have s9 := sx3.out.s.grow O9.out B9.out; have m9 := s9.m; replace s9 := Lib.hid s9)
                  | (refine wpList_load_b (by rfl) 91 (.tmp 10) rfl g rfl 91 (tab mk) m9 _ Try.underlying91 rfl im ?_))
                have cd := Lib.hid (xdouble_any mk bK.out w9)
                refine cd.out.mono ?_
                rintro e wa ⟨rfl, Ba⟩
                have sa := s9.out.below Ba
                have ma := sa.m
                clear m9 cd
                replace sa := Lib.hid sa
                replace Ba := Lib.hid Ba
                go_wp2_with (refine wpList_store_s (by rfl) 91 (.tmp 10) (.tmp 83) rfl g (tab (dblM mk)) rfl rfl 91 _ ma im2 (by rw [size_tab, size_tab]) ?_; intro wb Rb Ub)
                have sb := sa.out.mask Rb.out Ub.out
                have eo : out ++ tab Z = bytesOf F (16 * (k + 1)) := by rw [en1.out, eZ.out, eU.out]
                rw [em1.out, eo] at sb
                replace sb := Lib.hid sb
                replace eo := Lib.hid eo
                go_roundw
                case rel => exact ⟨k + 1, a + 16, by omega, by have := ea.out; omega, by go_num, sb.out⟩
                case measure => simp [intOf]; have := hn16k.out; omega
      · obtain rfl : k = m := by omega
        have ean : a = n := by have := em.out; omega
        subst ean
        have d : decide ((a : Int) < (a : Int)) = false := decide_eq_false (by omega)
        have dn : decide (a < a) = false := decide_eq_false (by omega)
        have hO := st.o
        have low9 := st.low
        have hf := st.far
        have eF2 : bytesOf F (16 * k) = bytesOf (sec (turnF V) (turnF W tw) (byt l)) a := by rw [← ea, eF.out, eM.out]
        rw [eF2] at hO
        replace st := Lib.hid st
        replace hO := Lib.hid hO
        replace low9 := Lib.hid low9
        replace hf := Lib.hid hf
        replace ea := Lib.hid ea
        replace em := Lib.hid em
        replace eF2 := Lib.hid eF2
        go_wp2_with fail
        go_ret2
        exact ⟨_, rfl, hO.out.weaken (by have := hf.out; omega), low9.out⟩
set_option maxHeartbeats 4000000 in
set_option maxRecDepth 100000 in
theorem xall_back (w : World) (b : Nat) (V W : Nat → Nat) (h : XtsAt w b V W) (hV : ∀ i, V i < 256) (hW : ∀ i, W i < 256) (p : Nat) (hp : CipherAt w p V) (tw : Nat → Nat) (ht : Bytes16 tw) (ao : Option Addr) (l : List Nat) (n cap : Nat) (en : l.length = n) (hl : TextAt w (.slice ao n cap) l) (hs : sectorB n = true) :
    Calls Try.prog 54 #[.pointer (some ⟨b, 0, none⟩), .agg (u8s (tab tw)), .slice ao n cap, .func (.func 66) #[.pointer (some ⟨p, 0, none⟩)] #[]] w fun e w' => ∃ v, e = .returned (.tuple #[v, .int .i64 0]) ∧ Own w' w.heap.size 5 v (u8l (bytesOf (sec (backF V) (turnF W tw) (byt l)) n)) ∧ Below w.heap.size w w' := by
  obtain ⟨p1, q, hbk, hc1, hc2⟩ := h.ex
  obtain ⟨hn0, hn16, hnm⟩ := of_decide_eq_true hs
  have hm : ((n : Int)).tmod 16 = 0 := by rw [Int.tmod_eq_emod_of_nonneg (by omega)]; omega
  have d0 : ((n : Int) == 0) = false := beq_eq_false_iff_ne.2 (by omega)
  have d2 : decide ((n : Int) > 65536) = false := decide_eq_false (by omega)
  have r0 : RowB (w.alloc (.cells (u8s (tab tw)) 91)) w.heap.size 91 (tab tw) := heap_alloc_new _ _
  have rd : RowB (w.alloc (.cells (u8s (tab tw)) 91)).drew w.heap.size 91 (tab tw) := r0
  have low : Below w.heap.size w (w.alloc (.cells (u8s (tab tw)) 91)).drew := ((Below.refl _ _).alloc (Nat.le_refl _) _).drew
  have cq := (cell_of_row _ _ 1 _ _ _ ((low.block b h.lt).trans hbk)).trans rfl
  have it := info16' tw
  have c2 := Lib.hid (turn_any (hc2.below low (Nat.le_refl _)) hW tw ht)
  replace h := Lib.hid h
  replace hV := Lib.hid hV
  replace hW := Lib.hid hW
  replace hp := Lib.hid hp
  replace ht := Lib.hid ht
  replace hl := Lib.hid hl
  replace hs := Lib.hid hs
  replace en := Lib.hid en
  replace hn0 := Lib.hid hn0
  replace hn16 := Lib.hid hn16
  replace hnm := Lib.hid hnm
  replace r0 := Lib.hid r0
  replace low := Lib.hid low
  replace hbk := Lib.hid hbk
  replace hc1 := Lib.hid hc1
  replace hc2 := Lib.hid hc2
  go_enter Try.func54, Try.ntmps54
  go_wp2_with fail
  refine wp_region_held_drew (S := (fun w' => RowB w' w.heap.size 91 (tab tw) ∧ w'.cell? ⟨b, 1, none⟩ = some (.pointer (some ⟨q, 0, none⟩)))) (by kernel_rfl) (⟨rd, cq⟩) (fun hHeld => ?_)
  refine held_take (i := 0) (v := ?_) rfl (by kernel_rfl) (by kernel_rfl) (by kernel_rfl) (fun _ _ _ h => h) (Or.inl ⟨by rfl, ?_⟩) (by assumption) ?_
  rotate_left
  · intro w hSw; (try dsimp only at hSw); go_simp; try with_reducible rfl
  try simp only [Act.put, List.setIfInBounds_toArray, List.set_cons_zero, List.set_cons_succ]
  refine held_take (i := 1) (v := ?_) rfl (by kernel_rfl) (by kernel_rfl) (by kernel_rfl) (fun _ _ _ h => h) (Or.inl ⟨by rfl, ?_⟩) (by assumption) ?_
  rotate_left
  · intro w hSw; (try dsimp only at hSw); go_simp; try with_reducible rfl
  try simp only [Act.put, List.setIfInBounds_toArray, List.set_cons_zero, List.set_cons_succ]
  refine held_take (i := 2) (v := ?_) rfl (by kernel_rfl) (by kernel_rfl) (by kernel_rfl) (fun _ _ _ h => h) (Or.inl ⟨by rfl, ?_⟩) (by assumption) ?_
  rotate_left
  · intro w hSw; (try dsimp only at hSw); go_simp; try with_reducible rfl
  try simp only [Act.put, List.setIfInBounds_toArray, List.set_cons_zero, List.set_cons_succ]
  refine held_take (i := 3) (v := ?_) rfl (by kernel_rfl) (by kernel_rfl) (by kernel_rfl) (fun _ _ _ h => h) (Or.inl ⟨by rfl, ?_⟩) (by assumption) ?_
  rotate_left
  · intro w hSw; (try dsimp only at hSw); go_simp; try with_reducible rfl
  try simp only [Act.put, List.setIfInBounds_toArray, List.set_cons_zero, List.set_cons_succ]
  refine held_take (i := 4) (v := _) rfl (by kernel_rfl) (by kernel_rfl) (by kernel_rfl) (fun _ _ _ h => h) (yieldsIf_row (by rfl) rfl rfl Try.underlying91 it (fun w' h => h.1)) (by assumption) ?_
  try simp only [Act.put, List.setIfInBounds_toArray, List.set_cons_zero, List.set_cons_succ]
  refine held_ready2 (i := 5) (j := 6) rfl rfl (by kernel_rfl) (fun K hK => ?_) (fun K hK => ?_)
  · go_simp
    refine c2.out.mono ?_
    rintro e w2 ⟨rfl, B2⟩
    have rd2 := rd.below B2 rd.lt
    have low2 := low.out.trans (B2.mono low.out.size)
    have cq2 := (B2.cell (block_lt_of_cell cq)).trans cq
    replace B2 := Lib.hid B2
    replace low2 := Lib.hid low2
    refine hK.out _ _ (⟨rd2, cq2⟩) (fun hHeldN => ?_)
    clear hHeld hK K
    have hHeld := hHeldN
    clear hHeldN
    try simp only [Act.put, List.setIfInBounds_toArray, List.set_cons_zero, List.set_cons_succ]
    refine held_ready (i := 6) rfl (by kernel_rfl) (fun K hK => ?_)
    go_simp
    have low3 := low2.out.alloc low2.out.size (.cells (u8s (List.replicate 16 0)) 91)
    have rd3 := rd2.alloc (.cells (u8s (List.replicate 16 0)) 91)
    have cq3 := (((Below.refl w2.heap.size w2).alloc (Nat.le_refl _) (.cells (u8s (List.replicate 16 0)) 91)).cell (block_lt_of_cell cq2)).trans cq2
    have z3 : RowB (w2.alloc (.cells (u8s (List.replicate 16 0)) 91)) w2.heap.size 91 (List.replicate 16 0) := heap_alloc_new _ _
    have hg : w.heap.size ≤ w2.heap.size := low2.out.size
    have hq : w.heap.size ≠ w2.heap.size := by have := rd2.lt; omega
    have hb : b ≠ w2.heap.size := by have := block_lt_of_cell cq2; simp only at this; omega
    replace low3 := Lib.hid low3
    replace hg := Lib.hid hg
    replace hq := Lib.hid hq
    replace hb := Lib.hid hb
    refine hK.out _ _ (⟨rd3, cq3⟩) (fun hHeldN => ?_)
    clear hHeld hK K
    have hHeld := hHeldN
    clear hHeldN
    try simp only [Act.put, List.setIfInBounds_toArray, List.set_cons_zero, List.set_cons_succ]
    refine held_ready (i := 7) rfl (by kernel_rfl) (fun K hK => ?_)
    rw [if_pos (by rfl)]
    refine wp_store_s 91 (.tmp 10) (.tmp 35) rfl w2.heap.size (tab (turnF W tw)) rfl rfl 91 _ z3 (info16' _) (by rw [size_tab]; rfl) ?_
    intro w5 R5 U5
    have rd5 : RowB w5 w.heap.size 91 (tab tw) := rd3.other (U5.out.block _ rd3.lt hq.out)
    have cq5 := (U5.out.cell (block_lt_of_cell cq3) (show ¬ (b = w2.heap.size) from hb.out)).trans cq3
    have low5 := low3.out.trans (U5.out.below (fun k hk e => by have := hg.out; omega) low3.out.size)
    clear rd rd2 rd3 cq cq2 cq3 c2 low
    generalize w2.heap.size = g at *
    replace U5 := Lib.hid U5
    replace low5 := Lib.hid low5
    refine hK.out _ _ (⟨rd5, cq5⟩) (fun hHeldN => ?_)
    clear hHeld hK K
    have hHeld := hHeldN
    clear hHeldN
    try simp only [Act.put]
    refine wpAnyH_done (by kernel_rfl) ?_ _
    clear hHeld
    have hmk : ∀ x, (Instr.makeSlice 25 (.int .i64 0) (.int .i64 (n : Int))).run Try.prog x = .ok (.slice (some ⟨x.heap.size, 0, none⟩) 0 n) (x.alloc (.cells (u8s (List.replicate n 0)) 5)) := run_make_u8 0 n (Nat.zero_le _) (by have := hnm.out; omega)
    go_wp2_with fail
    clear hmk
    obtain ⟨m, em⟩ : ∃ m, n = 16 * m := ⟨n / 16, by have := hn16.out; omega⟩
    have st0 : SecSt w (w5.alloc (.cells (u8s (List.replicate n 0)) 5)) g w5.heap.size (.slice (some ⟨w5.heap.size, 0, none⟩) 0 n) (maskTo (turnF W tw) 0) (bytesOf (sec (backF V) (turnF W tw) (byt l)) (16 * 0)) :=
      ⟨R5.out.alloc _, Own.room _ _ (Nat.le_refl _) (by unfold maxLen; have := hnm.out; omega), low5.out.alloc low5.out.size _, hg.out, R5.out.lt, by simp⟩
    have bM := bytes_turn hW.out ht.out
    obtain ⟨M, eM⟩ : ∃ M, M = turnF W tw := ⟨_, rfl⟩
    rw [← eM] at st0 bM
    rw [← eM]
    obtain ⟨F, eF⟩ : ∃ F, F = sec (backF V) M (byt l) := ⟨_, rfl⟩
    rw [← eF] at st0
    clear R5 hb hq rd5 cq5
    replace st0 := Lib.hid st0
    replace em := Lib.hid em
    replace eM := Lib.hid eM
    replace eF := Lib.hid eF
    replace bM := Lib.hid bM
    replace low5 := Lib.hid low5
    replace hg := Lib.hid hg
    have hlw := hl.out.ex
    obtain ⟨ao', cap', e0, hcap, _, hby⟩ := hlw
    obtain ⟨rfl, rfl⟩ : ao = ao' ∧ cap = cap' := by injection e0 with e1 _ e3; exact ⟨e1, e3⟩
    rw [en.out] at hcap hby
    clear e0
    replace hcap := Lib.hid hcap
    replace hby := Lib.hid hby
    generalize w5.heap.size = Bo at *
    go_loopw [11, 12] (fun v i wr => ∃ k a : Nat, k ≤ m ∧ a = 16 * k ∧ i = .int .i64 a ∧ SecSt w wr g Bo v (maskTo M k) (bytesOf F (16 * k))) (fun _ i _ => n - (intOf i).toNat)
    case atStart => exact ⟨0, 0, Nat.zero_le _, rfl, rfl, st0.out⟩
    case round =>
      clear st0
      obtain ⟨k, a, hk, ea, rfl, st⟩ := hrel
      by_cases hlt : k < m
      · have hn16k : a + 16 ≤ n := by have := em.out; omega
        have hn9 := hnm.out
        have d : decide ((a : Int) < (n : Int)) = true := decide_eq_true (by omega)
        obtain ⟨_, ob, oo, rfl, _⟩ := hby.out 0 (by omega)
        have hcell : ∀ i, i < n → w.cell? ⟨ob, oo + i, none⟩ = some (.int .u8 (byt l i : Nat)) := fun i hi => by
          obtain ⟨_, ob', oo', e, h1⟩ := hby.out i hi
          cases e; exact h1
        have hsm : ∀ i, i < n → byt l i < 256 := fun i hi => (hby.out i hi).1
        have hcut := run_cut_lh (P := Try.prog) Try.underlying25 infoU8s (some ⟨ob, oo, none⟩) n cap a (a + 16) (by omega) (by have := hcap.out; omega) (a : Int) ((a : Int) + 16) rfl (by omega)
        rw [cutA_some (by have := hcap.out; omega), show a + 16 - a = 16 by omega] at hcut
        have hat := fun x => run_arrayAt (P := Try.prog) x 91 5 16 (some ⟨ob, oo + a, none⟩) 16 (cap - a) Try.underlying91 (Nat.le_refl _)
        have f0 : IntKind.i64.wrap ((a : Int) + 16) = (a : Int) + 16 := IntWalk.i64_in _ (by omega)
        have bX : Bytes16 (blk (byt l) k) := fun i hi => hsm _ (by omega)
        have hrg : wr.rangeAt ob (oo + a) (u8l (tab (blk (byt l) k))) := fun j v hv => by
          have h1 := range16 hcell (k := k) (by omega) j v (hv)
          rw [← ea] at h1
          exact (st.low.cell (block_lt_of_cell h1)).trans h1
        have iX := info16' (blk (byt l) k)
        have iX2 : (Try.prog.info? 91).map (·.size) = some (tab (blk (byt l) k)).length := by rw [length_tab]; rfl
        have dn : decide (a < n) = true := decide_eq_true (by omega)
        have en1 : bytesOf F (16 * (k + 1)) = bytesOf F (16 * k) ++ tab (under (backF V) (maskTo M k) (blk (byt l) k)) := by rw [eF.out]; exact sec_next _ _ _ _
        have nl : (bytesOf F (16 * k)).length = 16 * k := length_bytesOf _ _
        generalize blk (byt l) k = X at *
        replace ea := Lib.hid ea
        replace st := Lib.hid st
        replace hn16k := Lib.hid hn16k
        replace hcell := Lib.hid hcell
        replace hsm := Lib.hid hsm
        replace bX := Lib.hid bX
        replace en1 := Lib.hid en1
        replace nl := Lib.hid nl
        replace hk := Lib.hid hk
        replace hn9 := Lib.hid hn9
        go_wp2_with (first
          | (refine wpList_load_m rfl 91 (.tmp 50) rfl ob (oo + a) rfl (tab X) _ hrg Try.underlying91 rfl iX2 ?_)
          | (refine wpList_store_n (by rfl) 91 (.tmp 13) (.tmp 51) rfl (tab X) rfl rfl iX (by rw [size_tab]; rfl) ?_; intro w6 R6 B6))
        have s6 : BlkSt w w6 g Bo wr.heap.size u11 (maskTo M k) (bytesOf F (16 * k)) (upTo 0 (xor16 X (maskTo M k)) X) :=
          ⟨st.out.below B6.out, by rw [upTo_none]; exact R6.out, Nat.lt_of_lt_of_le st.out.far.2.1 st.out.far.2.2, fun k hk => (st.out.o.lt k hk).2⟩
        have bK := maskTo_lt bM.out k
        have em1 : dblM (maskTo M k) = maskTo M (k + 1) := rfl
        generalize maskTo M k = mk at *
        generalize bytesOf F (16 * k) = out at *
        generalize hpp : wr.heap.size = px at *
        clear R6 B6 hrg iX iX2 hcut hat d dn hpp
        replace st := Lib.hid st
        replace s6 := Lib.hid s6
        replace bK := Lib.hid bK
        replace em1 := Lib.hid em1
        go_loopw [52] (fun iv ws => ∃ i : Nat, i ≤ 16 ∧ iv = .int .i64 i ∧ BlkSt w ws g Bo px u11 mk out (upTo i (xor16 X mk) X)) (fun iv _ => 16 - (intOf iv).toNat)
        case atStart => exact ⟨0, Nat.zero_le _, rfl, s6.out⟩
        case round =>
          clear s6
          obtain ⟨i, hi, rfl, sx⟩ := hrel
          by_cases hlt : i < 16
          ·
            have cx := sx.x.cell (tab_get (upTo i (xor16 X mk) X) hlt)
            have cg := sx.s.m.cell (tab_get mk hlt)
            have fr := sx.x.frozen i
            have ex : upTo i (xor16 X mk) X i = X i := by unfold upTo; rw [if_neg (Nat.lt_irrefl i)]
            have ev := u8_xor_nat (X i) (mk i) (bX.out i hlt) (bK.out i hlt)
            have ez : X i ^^^ mk i = xor16 X mk i := rfl
            have nx := sx.set
            rw [ex] at cx
            rw [ez] at ev
            generalize hy : xor16 X mk i = y at *
            generalize X i = u at *
            generalize mk i = um at *
            replace sx := Lib.hid sx
            replace nx := Lib.hid nx
            replace ez := Lib.hid ez
            replace ex := Lib.hid ex
            replace hy := Lib.hid hy
            go_wp2_with fail
            go_region
            go_wp2_with fail
            go_roundw
            case rel => exact ⟨i + 1, by omega, by go_num, nx.out.drew⟩
            case measure => simp [intOf]; omega
          · obtain rfl : i = 16 := by omega
            have sx2 : BlkSt w wr g Bo px u11 mk out (xor16 X mk) := ⟨sx.s, by have := sx.x; rwa [upTo_all] at this, sx.gp, sx.vp⟩
            have bY := xor16_lt bX.out bK.out
            have iY := info16' (xor16 X mk)
            have x2 := sx2.x
            have ct := Lib.hid (back_any (hp.out.below sx2.s.low (Nat.le_refl _)) hV.out (xor16 X mk) bY)
            clear sx
            replace sx2 := Lib.hid sx2
            replace bY := Lib.hid bY
            go_wp2_with (refine wpList_load_b (by rfl) 91 (.tmp 13) rfl px rfl 91 (tab (xor16 X mk)) x2 _ Try.underlying91 rfl iY ?_)
            refine ct.out.mono ?_
            rintro e w7 ⟨rfl, B7⟩
            have s7 := sx2.out.below B7
            have x7 := s7.x
            clear ct x2
            replace s7 := Lib.hid s7
            replace B7 := Lib.hid B7
            obtain ⟨Y, eY⟩ : ∃ Y, Y = backF V (xor16 X mk) := ⟨_, rfl⟩
            have bE := bytes_back hV.out bY.out
            have iE := info16' Y
            rw [← eY]
            rw [← eY] at bE
            replace bE := Lib.hid bE
            replace eY := Lib.hid eY
            go_wp2_with (refine wpList_store_s (by rfl) 91 (.tmp 13) (.tmp 66) rfl px (tab Y) rfl rfl 91 _ x7 iE (by rw [size_tab, size_tab]) ?_; intro w8 R8 U8)
            have s8 : BlkSt w w8 g Bo px u11 mk out (upTo 0 (xor16 Y mk) Y) := s7.out.put (by rw [upTo_none]; exact R8.out) U8.out
            have eU : xor16 Y mk = under (backF V) mk X := by rw [eY.out]; rfl
            clear x7 R8 U8 s7 sx2 B7
            replace bX := bE
            clear bY iY
            replace s8 := Lib.hid s8
            replace eU := Lib.hid eU
            generalize hX9 : X = X9 at *
            replace hX9 := Lib.hid hX9
            generalize Y = X at *
            go_loopw [67] (fun iv ws => ∃ i : Nat, i ≤ 16 ∧ iv = .int .i64 i ∧ BlkSt w ws g Bo px u11 mk out (upTo i (xor16 X mk) X)) (fun iv _ => 16 - (intOf iv).toNat)
            case atStart => exact ⟨0, Nat.zero_le _, rfl, s8.out⟩
            case round =>
              clear s8
              obtain ⟨i, hi, rfl, sx⟩ := hrel
              by_cases hlt : i < 16
              ·
                have cx := sx.x.cell (tab_get (upTo i (xor16 X mk) X) hlt)
                have cg := sx.s.m.cell (tab_get mk hlt)
                have fr := sx.x.frozen i
                have ex : upTo i (xor16 X mk) X i = X i := by unfold upTo; rw [if_neg (Nat.lt_irrefl i)]
                have ev := u8_xor_nat (X i) (mk i) (bX.out i hlt) (bK.out i hlt)
                have ez : X i ^^^ mk i = xor16 X mk i := rfl
                have nx := sx.set
                rw [ex] at cx
                rw [ez] at ev
                generalize hy : xor16 X mk i = y at *
                generalize X i = u at *
                generalize mk i = um at *
                replace sx := Lib.hid sx
                replace nx := Lib.hid nx
                replace ez := Lib.hid ez
                replace ex := Lib.hid ex
                replace hy := Lib.hid hy
                go_wp2_with fail
                go_region
                go_wp2_with fail
                go_roundw
                case rel => exact ⟨i + 1, by omega, by go_num, nx.out.drew⟩
                case measure => simp [intOf]; omega
              · obtain rfl : i = 16 := by omega
                have sx3 : BlkSt w wr g Bo px u11 mk out (xor16 X mk) := ⟨sx.s, by have := sx.x; rwa [upTo_all] at this, sx.gp, sx.vp⟩
                clear sx
                obtain ⟨Z, eZ⟩ : ∃ Z, Z = xor16 X mk := ⟨_, rfl⟩
                rw [← eZ] at sx3
                have bZ : Bytes16 Z := by rw [eZ]; exact xor16_lt bX.out bK.out
                have tZ : TextAt wr (.slice (some ⟨px, 0, none⟩) 16 16) (tab Z) := ⟨some ⟨px, 0, none⟩, 16, by rw [length_tab], by rw [length_tab]; exact Nat.le_refl _, fun e => by simp at e, fun i hi => by
                  rw [length_tab] at hi
                  rw [byt_tab Z hi]
                  exact ⟨bZ i hi, px, 0, rfl, by rw [Nat.zero_add]; exact sx3.x.cell (tab_get Z hi)⟩⟩
                have hO := sx3.s.o
                have hB0 := sx3.s.far.2.2
                have lZ : out.length + (tab Z).length ≤ 1000000000 := by rw [length_tab, nl.out]; have := hn9.out; have := hn16k.out; have := ea.out; omega
                clear hlt hi
                replace sx3 := Lib.hid sx3
                replace eZ := Lib.hid eZ
                replace bZ := Lib.hid bZ
                have im := info16' mk
                have im2 := info16' (dblM mk)
                go_wp2_with (first
                  | (refine wpList_append_s (by rfl) (.tmp 79) (.tmp 80) rfl Bo _ u11 out rfl hO (Below.refl _ _) hB0 (.slice (some ⟨px, 0, none⟩) 16 16) (tab Z) rfl tZ lZ ?_; intro v9 w9 O9 B9; have s9 := sx3.out.s.grow O9.out B9.out; have m9 := s9.m; replace s9 := Lib.hid s9)
                  | (refine wpList_load_b (by rfl) 91 (.tmp 10) rfl g rfl 91 (tab mk) m9 _ Try.underlying91 rfl im ?_))
                have cd := Lib.hid (xdouble_any mk bK.out w9)
                refine cd.out.mono ?_
                rintro e wa ⟨rfl, Ba⟩
                have sa := s9.out.below Ba
                have ma := sa.m
                clear m9 cd
                replace sa := Lib.hid sa
                replace Ba := Lib.hid Ba
                go_wp2_with (refine wpList_store_s (by rfl) 91 (.tmp 10) (.tmp 83) rfl g (tab (dblM mk)) rfl rfl 91 _ ma im2 (by rw [size_tab, size_tab]) ?_; intro wb Rb Ub)
                have sb := sa.out.mask Rb.out Ub.out
                have eo : out ++ tab Z = bytesOf F (16 * (k + 1)) := by rw [en1.out, eZ.out, eU.out]
                rw [em1.out, eo] at sb
                replace sb := Lib.hid sb
                replace eo := Lib.hid eo
                go_roundw
                case rel => exact ⟨k + 1, a + 16, by omega, by have := ea.out; omega, by go_num, sb.out⟩
                case measure => simp [intOf]; have := hn16k.out; omega
      · obtain rfl : k = m := by omega
        have ean : a = n := by have := em.out; omega
        subst ean
        have d : decide ((a : Int) < (a : Int)) = false := decide_eq_false (by omega)
        have dn : decide (a < a) = false := decide_eq_false (by omega)
        have hO := st.o
        have low9 := st.low
        have hf := st.far
        have eF2 : bytesOf F (16 * k) = bytesOf (sec (backF V) (turnF W tw) (byt l)) a := by rw [← ea, eF.out, eM.out]
        rw [eF2] at hO
        replace st := Lib.hid st
        replace hO := Lib.hid hO
        replace low9 := Lib.hid low9
        replace hf := Lib.hid hf
        replace ea := Lib.hid ea
        replace em := Lib.hid em
        replace eF2 := Lib.hid eF2
        go_wp2_with fail
        go_ret2
        exact ⟨_, rfl, hO.out.weaken (by have := hf.out; omega), low9.out⟩
  · go_simp
    have low1 := low.out.alloc low.out.size (.cells (u8s (List.replicate 16 0)) 91)
    have rd1 := rd.alloc (.cells (u8s (List.replicate 16 0)) 91)
    have cq1 := (((Below.refl (w.alloc (.cells (u8s (tab tw)) 91)).drew.heap.size (w.alloc (.cells (u8s (tab tw)) 91)).drew).alloc (Nat.le_refl _) (.cells (u8s (List.replicate 16 0)) 91)).cell (block_lt_of_cell cq)).trans cq
    have z1 : RowB ((w.alloc (.cells (u8s (tab tw)) 91)).drew.alloc (.cells (u8s (List.replicate 16 0)) 91)) (w.heap.size + 1) 91 (List.replicate 16 0) := by
      rw [show w.heap.size + 1 = (w.alloc (.cells (u8s (tab tw)) 91)).drew.heap.size by simp]; exact heap_alloc_new _ _
    have c2b := Lib.hid (turn_any (hc2.out.below low1 (Nat.le_refl _)) hW.out tw ht.out)
    replace low1 := Lib.hid low1
    refine hK.out _ _ (⟨rd1, cq1⟩) (fun hHeldN => ?_)
    clear hHeld hK K
    have hHeld := hHeldN
    clear hHeldN
    try simp only [Act.put, List.setIfInBounds_toArray, List.set_cons_zero, List.set_cons_succ]
    refine held_ready (i := 5) rfl (by kernel_rfl) (fun K hK => ?_)
    go_simp
    refine c2b.out.mono ?_
    rintro e w2 ⟨rfl, B2⟩
    have rd2 := rd1.below B2 rd1.lt
    have z2 := z1.below B2 z1.lt
    have low2 := low1.out.trans (B2.mono low1.out.size)
    have cq2 := (B2.cell (block_lt_of_cell cq1)).trans cq1
    have hg : w.heap.size ≤ w.heap.size + 1 := Nat.le_succ _
    have hb : b ≠ w.heap.size + 1 := by have := h.out.lt; omega
    replace B2 := Lib.hid B2
    replace low2 := Lib.hid low2
    replace hg := Lib.hid hg
    replace hb := Lib.hid hb
    refine hK.out _ _ (⟨rd2, cq2⟩) (fun hHeldN => ?_)
    clear hHeld hK K
    have hHeld := hHeldN
    clear hHeldN
    try simp only [Act.put, List.setIfInBounds_toArray, List.set_cons_zero, List.set_cons_succ]
    refine held_ready (i := 7) rfl (by kernel_rfl) (fun K hK => ?_)
    rw [if_pos (by rfl)]
    refine wp_store_s 91 (.tmp 10) (.tmp 35) rfl (w.heap.size + 1) (tab (turnF W tw)) rfl rfl 91 _ z2 (info16' _) (by rw [size_tab]; rfl) ?_
    intro w5 R5 U5
    have rd5 : RowB w5 w.heap.size 91 (tab tw) := rd2.other (U5.out.block _ rd2.lt (by omega))
    have cq5 := (U5.out.cell (block_lt_of_cell cq2) (show ¬ (b = w.heap.size + 1) from hb.out)).trans cq2
    have low5 := low2.out.trans (U5.out.below (fun k hk e => by omega) low2.out.size)
    have hq := hg
    clear rd rd1 rd2 cq cq1 cq2 c2 c2b low z1 z2
    generalize w.heap.size + 1 = g at *
    replace U5 := Lib.hid U5
    replace low5 := Lib.hid low5
    refine hK.out _ _ (⟨rd5, cq5⟩) (fun hHeldN => ?_)
    clear hHeld hK K
    have hHeld := hHeldN
    clear hHeldN
    try simp only [Act.put]
    refine wpAnyH_done (by kernel_rfl) ?_ _
    clear hHeld
    have hmk : ∀ x, (Instr.makeSlice 25 (.int .i64 0) (.int .i64 (n : Int))).run Try.prog x = .ok (.slice (some ⟨x.heap.size, 0, none⟩) 0 n) (x.alloc (.cells (u8s (List.replicate n 0)) 5)) := run_make_u8 0 n (Nat.zero_le _) (by have := hnm.out; omega)
    go_wp2_with fail
    clear hmk
    obtain ⟨m, em⟩ : ∃ m, n = 16 * m := ⟨n / 16, by have := hn16.out; omega⟩
    have st0 : SecSt w (w5.alloc (.cells (u8s (List.replicate n 0)) 5)) g w5.heap.size (.slice (some ⟨w5.heap.size, 0, none⟩) 0 n) (maskTo (turnF W tw) 0) (bytesOf (sec (backF V) (turnF W tw) (byt l)) (16 * 0)) :=
      ⟨R5.out.alloc _, Own.room _ _ (Nat.le_refl _) (by unfold maxLen; have := hnm.out; omega), low5.out.alloc low5.out.size _, hg.out, R5.out.lt, by simp⟩
    have bM := bytes_turn hW.out ht.out
    obtain ⟨M, eM⟩ : ∃ M, M = turnF W tw := ⟨_, rfl⟩
    rw [← eM] at st0 bM
    rw [← eM]
    obtain ⟨F, eF⟩ : ∃ F, F = sec (backF V) M (byt l) := ⟨_, rfl⟩
    rw [← eF] at st0
    clear R5 hb hq rd5 cq5
    replace st0 := Lib.hid st0
    replace em := Lib.hid em
    replace eM := Lib.hid eM
    replace eF := Lib.hid eF
    replace bM := Lib.hid bM
    replace low5 := Lib.hid low5
    replace hg := Lib.hid hg
    have hlw := hl.out.ex
    obtain ⟨ao', cap', e0, hcap, _, hby⟩ := hlw
    obtain ⟨rfl, rfl⟩ : ao = ao' ∧ cap = cap' := by injection e0 with e1 _ e3; exact ⟨e1, e3⟩
    rw [en.out] at hcap hby
    clear e0
    replace hcap := Lib.hid hcap
    replace hby := Lib.hid hby
    generalize w5.heap.size = Bo at *
    go_loopw [11, 12] (fun v i wr => ∃ k a : Nat, k ≤ m ∧ a = 16 * k ∧ i = .int .i64 a ∧ SecSt w wr g Bo v (maskTo M k) (bytesOf F (16 * k))) (fun _ i _ => n - (intOf i).toNat)
    case atStart => exact ⟨0, 0, Nat.zero_le _, rfl, rfl, st0.out⟩
    case round =>
      clear st0
      obtain ⟨k, a, hk, ea, rfl, st⟩ := hrel
      by_cases hlt : k < m
      · have hn16k : a + 16 ≤ n := by have := em.out; omega
        have hn9 := hnm.out
        have d : decide ((a : Int) < (n : Int)) = true := decide_eq_true (by omega)
        obtain ⟨_, ob, oo, rfl, _⟩ := hby.out 0 (by omega)
        have hcell : ∀ i, i < n → w.cell? ⟨ob, oo + i, none⟩ = some (.int .u8 (byt l i : Nat)) := fun i hi => by
          obtain ⟨_, ob', oo', e, h1⟩ := hby.out i hi
          cases e; exact h1
        have hsm : ∀ i, i < n → byt l i < 256 := fun i hi => (hby.out i hi).1
        have hcut := run_cut_lh (P := Try.prog) Try.underlying25 infoU8s (some ⟨ob, oo, none⟩) n cap a (a + 16) (by omega) (by have := hcap.out; omega) (a : Int) ((a : Int) + 16) rfl (by omega)
        rw [cutA_some (by have := hcap.out; omega), show a + 16 - a = 16 by omega] at hcut
        have hat := fun x => run_arrayAt (P := Try.prog) x 91 5 16 (some ⟨ob, oo + a, none⟩) 16 (cap - a) Try.underlying91 (Nat.le_refl _)
        have f0 : IntKind.i64.wrap ((a : Int) + 16) = (a : Int) + 16 := IntWalk.i64_in _ (by omega)
        have bX : Bytes16 (blk (byt l) k) := fun i hi => hsm _ (by omega)
        have hrg : wr.rangeAt ob (oo + a) (u8l (tab (blk (byt l) k))) := fun j v hv => by
          have h1 := range16 hcell (k := k) (by omega) j v (hv)
          rw [← ea] at h1
          exact (st.low.cell (block_lt_of_cell h1)).trans h1
        have iX := info16' (blk (byt l) k)
        have iX2 : (Try.prog.info? 91).map (·.size) = some (tab (blk (byt l) k)).length := by rw [length_tab]; rfl
        have dn : decide (a < n) = true := decide_eq_true (by omega)
        have en1 : bytesOf F (16 * (k + 1)) = bytesOf F (16 * k) ++ tab (under (backF V) (maskTo M k) (blk (byt l) k)) := by rw [eF.out]; exact sec_next _ _ _ _
        have nl : (bytesOf F (16 * k)).length = 16 * k := length_bytesOf _ _
        generalize blk (byt l) k = X at *
        replace ea := Lib.hid ea
        replace st := Lib.hid st
        replace hn16k := Lib.hid hn16k
        replace hcell := Lib.hid hcell
        replace hsm := Lib.hid hsm
        replace bX := Lib.hid bX
        replace en1 := Lib.hid en1
        replace nl := Lib.hid nl
        replace hk := Lib.hid hk
        replace hn9 := Lib.hid hn9
        go_wp2_with (first
          | (refine wpList_load_m rfl 91 (.tmp 50) rfl ob (oo + a) rfl (tab X) _ hrg Try.underlying91 rfl iX2 ?_)
          | (refine wpList_store_n (by rfl) 91 (.tmp 13) (.tmp 51) rfl (tab X) rfl rfl iX (by rw [size_tab]; rfl) ?_; intro w6 R6 B6))
        have s6 : BlkSt w w6 g Bo wr.heap.size u11 (maskTo M k) (bytesOf F (16 * k)) (upTo 0 (xor16 X (maskTo M k)) X) :=
          ⟨st.out.below B6.out, by rw [upTo_none]; exact R6.out, Nat.lt_of_lt_of_le st.out.far.2.1 st.out.far.2.2, fun k hk => (st.out.o.lt k hk).2⟩
        have bK := maskTo_lt bM.out k
        have em1 : dblM (maskTo M k) = maskTo M (k + 1) := rfl
        generalize maskTo M k = mk at *
        generalize bytesOf F (16 * k) = out at *
        generalize hpp : wr.heap.size = px at *
        clear R6 B6 hrg iX iX2 hcut hat d dn hpp
        replace st := Lib.hid st
        replace s6 := Lib.hid s6
        replace bK := Lib.hid bK
        replace em1 := Lib.hid em1
        go_loopw [52] (fun iv ws => ∃ i : Nat, i ≤ 16 ∧ iv = .int .i64 i ∧ BlkSt w ws g Bo px u11 mk out (upTo i (xor16 X mk) X)) (fun iv _ => 16 - (intOf iv).toNat)
        case atStart => exact ⟨0, Nat.zero_le _, rfl, s6.out⟩
        case round =>
          clear s6
          obtain ⟨i, hi, rfl, sx⟩ := hrel
          by_cases hlt : i < 16
          ·
            have cx := sx.x.cell (tab_get (upTo i (xor16 X mk) X) hlt)
            have cg := sx.s.m.cell (tab_get mk hlt)
            have fr := sx.x.frozen i
            have ex : upTo i (xor16 X mk) X i = X i := by unfold upTo; rw [if_neg (Nat.lt_irrefl i)]
            have ev := u8_xor_nat (X i) (mk i) (bX.out i hlt) (bK.out i hlt)
            have ez : X i ^^^ mk i = xor16 X mk i := rfl
            have nx := sx.set
            rw [ex] at cx
            rw [ez] at ev
            generalize hy : xor16 X mk i = y at *
            generalize X i = u at *
            generalize mk i = um at *
            replace sx := Lib.hid sx
            replace nx := Lib.hid nx
            replace ez := Lib.hid ez
            replace ex := Lib.hid ex
            replace hy := Lib.hid hy
            go_wp2_with fail
            go_region
            go_wp2_with fail
            go_roundw
            case rel => exact ⟨i + 1, by omega, by go_num, nx.out.drew⟩
            case measure => simp [intOf]; omega
          · obtain rfl : i = 16 := by omega
            have sx2 : BlkSt w wr g Bo px u11 mk out (xor16 X mk) := ⟨sx.s, by have := sx.x; rwa [upTo_all] at this, sx.gp, sx.vp⟩
            have bY := xor16_lt bX.out bK.out
            have iY := info16' (xor16 X mk)
            have x2 := sx2.x
            have ct := Lib.hid (back_any (hp.out.below sx2.s.low (Nat.le_refl _)) hV.out (xor16 X mk) bY)
            clear sx
            replace sx2 := Lib.hid sx2
            replace bY := Lib.hid bY
            go_wp2_with (refine wpList_load_b (by rfl) 91 (.tmp 13) rfl px rfl 91 (tab (xor16 X mk)) x2 _ Try.underlying91 rfl iY ?_)
            refine ct.out.mono ?_
            rintro e w7 ⟨rfl, B7⟩
            have s7 := sx2.out.below B7
            have x7 := s7.x
            clear ct x2
            replace s7 := Lib.hid s7
            replace B7 := Lib.hid B7
            obtain ⟨Y, eY⟩ : ∃ Y, Y = backF V (xor16 X mk) := ⟨_, rfl⟩
            have bE := bytes_back hV.out bY.out
            have iE := info16' Y
            rw [← eY]
            rw [← eY] at bE
            replace bE := Lib.hid bE
            replace eY := Lib.hid eY
            go_wp2_with (refine wpList_store_s (by rfl) 91 (.tmp 13) (.tmp 66) rfl px (tab Y) rfl rfl 91 _ x7 iE (by rw [size_tab, size_tab]) ?_; intro w8 R8 U8)
            have s8 : BlkSt w w8 g Bo px u11 mk out (upTo 0 (xor16 Y mk) Y) := s7.out.put (by rw [upTo_none]; exact R8.out) U8.out
            have eU : xor16 Y mk = under (backF V) mk X := by rw [eY.out]; rfl
            clear x7 R8 U8 s7 sx2 B7
            replace bX := bE
            clear bY iY
            replace s8 := Lib.hid s8
            replace eU := Lib.hid eU
            generalize hX9 : X = X9 at *
            replace hX9 := Lib.hid hX9
            generalize Y = X at *
            go_loopw [67] (fun iv ws => ∃ i : Nat, i ≤ 16 ∧ iv = .int .i64 i ∧ BlkSt w ws g Bo px u11 mk out (upTo i (xor16 X mk) X)) (fun iv _ => 16 - (intOf iv).toNat)
            case atStart => exact ⟨0, Nat.zero_le _, rfl, s8.out⟩
            case round =>
              clear s8
              obtain ⟨i, hi, rfl, sx⟩ := hrel
              by_cases hlt : i < 16
              ·
                have cx := sx.x.cell (tab_get (upTo i (xor16 X mk) X) hlt)
                have cg := sx.s.m.cell (tab_get mk hlt)
                have fr := sx.x.frozen i
                have ex : upTo i (xor16 X mk) X i = X i := by unfold upTo; rw [if_neg (Nat.lt_irrefl i)]
                have ev := u8_xor_nat (X i) (mk i) (bX.out i hlt) (bK.out i hlt)
                have ez : X i ^^^ mk i = xor16 X mk i := rfl
                have nx := sx.set
                rw [ex] at cx
                rw [ez] at ev
                generalize hy : xor16 X mk i = y at *
                generalize X i = u at *
                generalize mk i = um at *
                replace sx := Lib.hid sx
                replace nx := Lib.hid nx
                replace ez := Lib.hid ez
                replace ex := Lib.hid ex
                replace hy := Lib.hid hy
                go_wp2_with fail
                go_region
                go_wp2_with fail
                go_roundw
                case rel => exact ⟨i + 1, by omega, by go_num, nx.out.drew⟩
                case measure => simp [intOf]; omega
              · obtain rfl : i = 16 := by omega
                have sx3 : BlkSt w wr g Bo px u11 mk out (xor16 X mk) := ⟨sx.s, by have := sx.x; rwa [upTo_all] at this, sx.gp, sx.vp⟩
                clear sx
                obtain ⟨Z, eZ⟩ : ∃ Z, Z = xor16 X mk := ⟨_, rfl⟩
                rw [← eZ] at sx3
                have bZ : Bytes16 Z := by rw [eZ]; exact xor16_lt bX.out bK.out
                have tZ : TextAt wr (.slice (some ⟨px, 0, none⟩) 16 16) (tab Z) := ⟨some ⟨px, 0, none⟩, 16, by rw [length_tab], by rw [length_tab]; exact Nat.le_refl _, fun e => by simp at e, fun i hi => by
                  rw [length_tab] at hi
                  rw [byt_tab Z hi]
                  exact ⟨bZ i hi, px, 0, rfl, by rw [Nat.zero_add]; exact sx3.x.cell (tab_get Z hi)⟩⟩
                have hO := sx3.s.o
                have hB0 := sx3.s.far.2.2
                have lZ : out.length + (tab Z).length ≤ 1000000000 := by rw [length_tab, nl.out]; have := hn9.out; have := hn16k.out; have := ea.out; omega
                clear hlt hi
                replace sx3 := Lib.hid sx3
                replace eZ := Lib.hid eZ
                replace bZ := Lib.hid bZ
                have im := info16' mk
                have im2 := info16' (dblM mk)
                go_wp2_with (first
                  | (refine wpList_append_s (by rfl) (.tmp 79) (.tmp 80) rfl Bo _ u11 out rfl hO (Below.refl _ _) hB0 (.slice (some ⟨px, 0, none⟩) 16 16) (tab Z) rfl tZ lZ ?_; intro v9 w9 O9 B9; have s9 := sx3.out.s.grow O9.out B9.out; have m9 := s9.m; replace s9 := Lib.hid s9)
                  | (refine wpList_load_b (by rfl) 91 (.tmp 10) rfl g rfl 91 (tab mk) m9 _ Try.underlying91 rfl im ?_))
                have cd := Lib.hid (xdouble_any mk bK.out w9)
                refine cd.out.mono ?_
                rintro e wa ⟨rfl, Ba⟩
                have sa := s9.out.below Ba
                have ma := sa.m
                clear m9 cd
                replace sa := Lib.hid sa
                replace Ba := Lib.hid Ba
                go_wp2_with (refine wpList_store_s (by rfl) 91 (.tmp 10) (.tmp 83) rfl g (tab (dblM mk)) rfl rfl 91 _ ma im2 (by rw [size_tab, size_tab]) ?_; intro wb Rb Ub)
                have sb := sa.out.mask Rb.out Ub.out
                have eo : out ++ tab Z = bytesOf F (16 * (k + 1)) := by rw [en1.out, eZ.out, eU.out]
                rw [em1.out, eo] at sb
                replace sb := Lib.hid sb
                replace eo := Lib.hid eo
                go_roundw
                case rel => exact ⟨k + 1, a + 16, by omega, by have := ea.out; omega, by go_num, sb.out⟩
                case measure => simp [intOf]; have := hn16k.out; omega
      · obtain rfl : k = m := by omega
        have ean : a = n := by have := em.out; omega
        subst ean
        have d : decide ((a : Int) < (a : Int)) = false := decide_eq_false (by omega)
        have dn : decide (a < a) = false := decide_eq_false (by omega)
        have hO := st.o
        have low9 := st.low
        have hf := st.far
        have eF2 : bytesOf F (16 * k) = bytesOf (sec (backF V) (turnF W tw) (byt l)) a := by rw [← ea, eF.out, eM.out]
        rw [eF2] at hO
        replace st := Lib.hid st
        replace hO := Lib.hid hO
        replace low9 := Lib.hid low9
        replace hf := Lib.hid hf
        replace ea := Lib.hid ea
        replace em := Lib.hid em
        replace eF2 := Lib.hid eF2
        go_wp2_with fail
        go_ret2
        exact ⟨_, rfl, hO.out.weaken (by have := hf.out; omega), low9.out⟩
end Go.Proofs.Ytecmagenlbnchaa
