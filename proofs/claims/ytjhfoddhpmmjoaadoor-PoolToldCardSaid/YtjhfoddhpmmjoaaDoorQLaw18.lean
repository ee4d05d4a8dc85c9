/-
  Layer 18: 'alive'. The table of math/bits stands in the world: the one condition.
-/
import Derived.Test.YtjhfoddhpmmjoaaDoorQPoolLook
import Derived.Test.YtjhfoddhpmmjoaaDoorQFullSum
namespace Go.Proofs.YtjhfoddhpmmjoaaDoor
set_option maxRecDepth 100000
open Go.RowKit Go.Maps

abbrev E18 : Nat → Ten := admitT 5 (fun _ => Ten.no) 1 1 2
theorem e18a : takeE 5 (fun _ => Ten.no) 1 = 51 := by decide
theorem e18b : admitE 5 (fun _ => Ten.no) 1 1 2 = 0 := by decide
theorem e18c : takeE 5 E18 1 = 0 := by decide
theorem fullN0 : fullN 0 = 512 := by decide
theorem full0_length (x : Nat) : (fullT x 0).length = 512 := by rw [fullT_length, fullN0]
theorem full_ne {x y : Nat} (h : x ≠ y) : fullT x 0 ≠ fullT y 0 := fun e => by
  have h2 : (fullT x 0)[0]? = (fullT y 0)[0]? := by rw [e]
  have a : ∀ z, (fullT z 0)[0]? = some z := fun z => by unfold fullT; rw [fullN0, List.getElem?_replicate, if_pos (by decide)]
  rw [a x, a y] at h2
  exact h (Option.some.inj h2)
set_option maxHeartbeats 4000000 in
set_option maxRecDepth 100000 in
theorem alive_any18 (w : World) (hT : TabAt w) : Calls Tryd.prog 36 #[] w fun e w' => e = .returned (.bool true) ∧ Below w.heap.size w w' := by
  have c1 := dnew_any w 9 (by omega) (by omega)
  replace hT := Lib.hid hT
  replace c1 := Lib.hid c1
  go_enter Tryd.func36, Tryd.ntmps36
  go_wp2_with fail
  refine c1.out.mono ?_
  rintro e w1 ⟨db, rfl, D1, B1⟩
  have c2 := lnew_any w1
  clear c1
  replace D1 := Lib.hid D1
  replace B1 := Lib.hid B1
  replace c2 := Lib.hid c2
  go_wp2_with fail
  refine c2.out.mono ?_
  rintro e w2 ⟨lb, rfl, L2, B2⟩
  obtain ⟨FD, FL, D2, L2', hF, hL, h0⟩ := pool_parts D1.out L2 B1.out B2
  have B02 := B1.out.trans (B2.mono B1.out.size)
  have c3 := pnew_ok D2 L2' 2 5 (by omega) (by omega) (by show 2 + 5 ≤ 9; omega) hF hL
  clear c2 D1 L2 D2 L2' hF hL B1 B2
  replace c3 := Lib.hid c3
  replace h0 := Lib.hid h0
  replace B02 := Lib.hid B02
  go_wp2_with fail
  refine c3.out.mono ?_
  rintro e w3 ⟨l, rfl, rfl, rfl, P3, hk3, B3⟩
  have st3 := P3.made h0.out hk3 B02.out B3
  obtain ⟨R3, hR3⟩ : ∃ R, R = l.all FD FL := ⟨_, rfl⟩
  rw [← hR3] at st3
  have le3 : Ps.Le ⟨2, 5, 0, Dk.new 9, [], fun _ => 0, fun _ => Ten.no⟩ 0 := ⟨Nat.le_refl _, Nat.le_refl _, Nat.le_refl _, Nat.le_refl _, by decide⟩
  have c4 := full_loop w3 1 (by omega) 0
  clear c3 h0 P3 hk3 B3 B02 hR3
  replace st3 := Lib.hid st3
  replace le3 := Lib.hid le3
  replace c4 := Lib.hid c4
  go_wp2_with fail
  refine c4.out.mono ?_
  rintro e w4 ⟨v4, rfl, o4, B4, _⟩
  have st4 := st3.out.below B4
  have c5 := pput_any st4.p (hT.out.below st4.low) (le3.out.ok (by omega)) 1 v4 (fullT 1 0) (fresh_text o4 (fullT_small (by omega) 0) (fun k hk => st3.out.p.lt hk)) (by rw [full0_length]; omega)
  clear c4 o4 B4
  replace st4 := Lib.hid st4
  replace c5 := Lib.hid c5
  go_wp2_with fail
  refine c5.out.mono ?_
  rintro e w5 ⟨x5, sum5, E5, s5, R5, rfl, rel5, p5, k5, U5⟩
  obtain ⟨rfl, rfl, rfl, rfl⟩ := rel5.full (full0_length 1) (by show takeE 5 _ 1 ≠ 0; rw [e18a]; decide)
  rw [show takeE (⟨2, 5, 0, Dk.new 9, [], fun _ => 0, fun _ => Ten.no⟩ : Ps).n (⟨2, 5, 0, Dk.new 9, [], fun _ => 0, fun _ => Ten.no⟩ : Ps).E 1 = 51 from e18a]
  have st5 := st4.out.turn p5 k5 U5
  clear c5 rel5 p5 k5 U5 st4 st3
  replace st5 := Lib.hid st5
  go_wp2_with (refine wpList_store_new (by rfl) (.tmp 5) (.tmp 34) rfl (refV 0 noughts32) rfl rfl (infoRef 0 noughts32_length) (refV_size 0 noughts32_length).symm (refV_one 0 noughts32) ?_; intro w6 R6 B6; have st6 := st5.out.below B6.out; have cf := pfield_at st6.p; replace st6 := Lib.hid st6; replace cf := Lib.hid cf)
  clear st5 R6 B6
  refine cf.out.mono ?_
  rintro e _ ⟨rfl, rfl⟩
  have ca := eadmit_any st6.out.p.field.1 1 1 2
  clear cf
  replace ca := Lib.hid ca
  go_wp2_with fail
  refine ca.out.mono ?_
  rintro e w7 ⟨rfl, F7, U7⟩
  obtain ⟨p7, k7, u7⟩ := st6.out.p.field.2 _ _ _ _ F7 U7
  have st7 := st6.out.turn p7 k7 u7
  rw [show admitE (⟨2, 5, 0, Dk.new 9, [], fun _ => 0, fun _ => Ten.no⟩ : Ps).n (⟨2, 5, 0, Dk.new 9, [], fun _ => 0, fun _ => Ten.no⟩ : Ps).E 1 1 2 = 0 from e18b]
  obtain ⟨s7, hs7⟩ : ∃ s : Ps, s = ⟨2, 5, 0, Dk.new 9, [], fun _ => 0, E18⟩ := ⟨_, rfl⟩
  have st7 : PlSt w w7 l R5 s7 := by rw [hs7]; exact st7
  have le7 : s7.Le 1 := by rw [hs7]; exact le3.out.set (by decide)
  have c7 := full_loop w7 7 (by omega) 0
  clear ca F7 U7 p7 k7 u7 st6 le3
  replace st7 := Lib.hid st7
  replace c7 := Lib.hid c7
  replace le7 := Lib.hid le7
  replace hs7 := Lib.hid hs7
  go_wp2_with fail
  refine c7.out.mono ?_
  rintro e w8 ⟨v8, rfl, o8, B8, _⟩
  have st8 := st7.out.below B8
  have c8 := pput_any st8.p (hT.out.below st8.low) (le7.out.ok (by omega)) 1 v8 (fullT 7 0) (fresh_text o8 (fullT_small (by omega) 0) (fun k hk => st7.out.p.lt hk)) (by rw [full0_length]; omega)
  clear c7 o8 B8
  replace st8 := Lib.hid st8
  replace c8 := Lib.hid c8
  go_wp2_with fail
  refine c8.out.mono ?_
  rintro e w9 ⟨x9, sum9, E9, s9, R9, rfl, rel9, p9, k9, U9⟩
  have st9 := st8.out.turn p9 k9 U9
  have le9 := rel9.le le7.out
  have hw9 : (Dk.new 9).writeE (2 + 0) (fullT 7 0).length = 0 := by rw [full0_length]; decide
  obtain ⟨rfl, rfl, rfl, hs9⟩ : E9 = 0 ∧ x9 = 0 ∧ sum9 = sumOf (fullT 7 0) ∧ s9.start = 2 ∧ s9.n = 5 ∧ s9.T = [fullT 7 0] ∧ s9.D = (Dk.new 9).writeD 2 (fullT 7 0) := by
    rw [hs7.out] at rel9
    obtain ⟨y, _, _, hj, h⟩ := rel9.done (full0_length 7) e18c
    have y0 : y = 0 := by
      rcases Nat.eq_zero_or_pos y with e | e
      · exact e
      · exact absurd (hj 0 e) (by decide)
    subst y0
    rcases h with ⟨hne, _⟩ | ⟨_, rfl, rfl, rfl, rfl⟩
    · exact absurd hw9 hne
    · exact ⟨rfl, rfl, rfl, rfl, rfl, rfl, rfl⟩
  obtain ⟨g1, g2, g3, g4⟩ := hs9
  have lk9 := write_look hw9
  have lS := length_sumOf (fullT 7 0)
  have ltS := sumOf_lt (fullT 7 0)
  have hLk : s9.D.look (s9.start + 0) = fullT 7 0 := by rw [g4, g1]; exact lk9.1
  have hDn : s9.D.down = false := by rw [g4]; exact lk9.2.2
  obtain ⟨S, hS⟩ : ∃ S, S = sumOf (fullT 7 0) := ⟨_, rfl⟩
  rw [← hS] at lS ltS
  rw [← hS]
  clear c8 rel9 p9 k9 U9 st8 st7 lk9 hw9 le7
  replace st9 := Lib.hid st9
  replace le9 := Lib.hid le9
  replace lS := Lib.hid lS
  replace ltS := Lib.hid ltS
  replace hLk := Lib.hid hLk
  replace hDn := Lib.hid hDn
  replace g1 := Lib.hid g1
  replace g2 := Lib.hid g2
  replace g3 := Lib.hid g3
  replace g4 := Lib.hid g4
  replace hS := Lib.hid hS
  go_wp2_with (first
    | (refine wpList_store_new (by rfl) (.tmp 8) (.tmp 43) rfl (refV 0 S) rfl rfl (infoRef 0 lS.out) (by rw [refV_size 0 lS.out]; rfl) (refV_one 0 S) ?_; intro w10 R10 B10; have st10 := st9.out.below B10.out; have cg := pget_any st10.p (by have := le9.out.texts; omega) 0 (by omega) S lS.out ltS.out; replace st10 := Lib.hid st10; replace cg := Lib.hid cg)
    | refine wpList_load_row (by rfl) 76 (.tmp 8) rfl w9.heap.size rfl 76 (refV 0 S) (0, 0) _ R10.out Tryd.underlying76 rfl (infoRef 0 lS.out) ?_)
  refine cg.out.mono ?_
  rintro e w11 ⟨s11, R11, p11, k11, U11, h11⟩
  have ng9 : ¬ R9 w9.heap.size := fun e => Nat.lt_irrefl _ (st9.out.p.lt e)
  have sz9 := lt_of_block R10.out
  obtain ⟨gb, hgb⟩ : ∃ g, g = w9.heap.size := ⟨_, rfl⟩
  have r11 := U11.at R10.out ng9
  rw [← hgb] at r11 ng9 sz9
  rw [← hgb]
  rcases h11 with ⟨hn, _⟩ | ⟨_, hd, _⟩ | ⟨_, _, hs11, ⟨hne, _⟩ | ⟨_, gt, ct, rfl, tx⟩⟩
  · have := g2.out; omega
  · have := hDn.out; rw [hd] at this; exact absurd this (by decide)
  · exact absurd (by rw [hLk.out, hS.out]) hne
  rw [hLk.out] at tx hs11
  have st11 := st10.out.turn p11 k11 U11
  have hT11 : s11.T = [fullT 7 0] := by rw [hs11]; show addT s9.T _ = _; rw [g3.out, addT_in (List.mem_singleton.2 rfl)]
  have hD11 : s11.D = (Dk.new 9).writeD 2 (fullT 7 0) := by rw [hs11]; exact g4.out
  have hn11 : s11.n = 5 ∧ s11.start = 2 := by rw [hs11]; exact ⟨g2.out, g1.out⟩
  have le11 : s11.Le 3 := by rw [hs11]; exact le9.out.add _
  have ng11 : ¬ R11 gb := fun e => by rcases (k11 gb e).1 with q | q; exact ng9 q; omega
  have c11 := full_loop w11 8 (by omega) 0
  clear cg p11 k11 U11 st10 st9 R10 B10 hs11 le9 hLk hDn g1 g2 g3 g4
  replace st11 := Lib.hid st11
  replace c11 := Lib.hid c11
  replace tx := Lib.hid tx
  replace r11 := Lib.hid r11
  replace ng11 := Lib.hid ng11
  replace hT11 := Lib.hid hT11
  replace hD11 := Lib.hid hD11
  replace hn11 := Lib.hid hn11
  replace le11 := Lib.hid le11
  replace hgb := Lib.hid hgb
  replace ng9 := Lib.hid ng9
  go_wp2_with fail
  refine c11.out.mono ?_
  rintro e w12 ⟨v12, rfl, o12, B12, tx12⟩
  have st12 := st11.out.below B12
  have r12 := (B12.block _ (lt_of_block r11.out)).trans r11.out
  obtain ⟨FD2, D12, _, turn⟩ := st12.p.disk
  have ctm := dtamper_any (D := s11.D) D12 2 (by omega) v12 (fullT 8 0) tx12 (by have := le11.out.waits; omega)
  clear c11 o12
  replace st12 := Lib.hid st12
  replace r12 := Lib.hid r12
  replace ctm := Lib.hid ctm
  replace turn := Lib.hid turn
  replace B12 := Lib.hid B12
  go_wp2_with fail
  refine ctm.out.mono ?_
  rintro e w13 ⟨rfl, D13, U13⟩
  obtain ⟨R13, p13, k13, u13⟩ := turn.out w13 _ D13 U13 (tamperD_same _ _ _).1
  have st13 := st12.out.turn p13 k13 u13
  have r13 := u13.at r12.out ng11.out
  have ng13 : ¬ R13 gb := fun e => by
    rcases (k13 gb e).1 with q | q
    · exact ng11.out q
    · have := lt_of_block r12.out; omega
  obtain ⟨_, tl1, _⟩ := tamper_look (D := s11.D) (s := 2) (t := fullT 8 0) (by rw [hD11.out, Dk.writeD_n]; decide) (full0_length 8)
  have td := (tamperD_same s11.D 2 (fullT 8 0)).2.1
  have dn11 : s11.D.down = false := by rw [hD11.out]; exact (write_look (D := Dk.new 9) (s := 2) (t := fullT 7 0) (by rw [full0_length]; decide)).2.2
  obtain ⟨s13, hs13⟩ : ∃ s : Ps, s = { s11 with D := s11.D.tamperD 2 (fullT 8 0) } := ⟨_, rfl⟩
  rw [← hs13] at st13 p13
  have le13 : s13.Le 3 := by rw [hs13]; exact le11.out.tamper 2 _
  have hT13 : s13.T = [fullT 7 0] := by rw [hs13]; exact hT11.out
  have hn13 : s13.n = 5 ∧ s13.start = 2 := by rw [hs13]; exact hn11.out
  have hD13 : s13.D.down = false := by rw [hs13]; show (s11.D.tamperD 2 _).down = _; rw [td, dn11]
  have hL13 : s13.D.look (s13.start + 0) = fullT 8 0 := by rw [hn13.2, hs13]; exact tl1
  have tx13 : ∀ wx, Upd R13 w13 wx → TextAt wx (.slice (some ⟨gt, 0, none⟩) 512 ct) (fullT 7 0) := fun wx ux => by
    refine tx.out wx (((Upd.of_below (S := R11) B12.out).trans u13 (fun _ _ e => e)).trans ux (fun k hk e => ?_))
    rcases (k13 k e).1 with q | q
    · exact q
    · have := B12.out.size; omega
  have cg := pget_any st13.p (by have := le13.texts; omega) 0 (by omega) S lS.out ltS.out
  clear ctm turn D13 U13 p13 k13 u13 st12 st11 tl1 td dn11 hs13 le11 hT11 hD11 hn11 tx r12 r11 ng11 B12 tx12 D12
  replace st13 := Lib.hid st13
  replace cg := Lib.hid cg
  replace tx13 := Lib.hid tx13
  replace r13 := Lib.hid r13
  replace ng13 := Lib.hid ng13
  replace hT13 := Lib.hid hT13
  replace hn13 := Lib.hid hn13
  replace hD13 := Lib.hid hD13
  replace hL13 := Lib.hid hL13
  replace le13 := Lib.hid le13
  go_wp2_with (refine wpList_load_row (by rfl) 76 (.tmp 8) rfl gb rfl 76 (refV 0 S) (0, 0) _ r13.out Tryd.underlying76 rfl (infoRef 0 lS.out) ?_)
  refine cg.out.mono ?_
  rintro e w14 ⟨s14, R14, p14, k14, U14, h14⟩
  have hu : ¬ sumOf (fullT 8 0) = S := fun e => by
    rw [hS.out] at e
    have e7 : fullT 7 0 = List.replicate 512 7 := by unfold fullT; rw [fullN0]
    have e8 : fullT 8 0 = List.replicate 512 8 := by unfold fullT; rw [fullN0]
    rw [e7, e8] at e
    exact sum78 e.symm
  rcases h14 with ⟨hn, _⟩ | ⟨_, hd, _⟩ | ⟨_, _, hs14, ⟨_, rfl⟩ | ⟨heq, _⟩⟩
  · have := hn13.out.1; omega
  · have := hD13.out; rw [hd] at this; exact absurd this (by decide)
  rotate_left
  · rw [hL13.out] at heq; exact absurd heq hu
  rw [hL13.out] at hs14
  have st14 := st13.out.turn p14 k14 U14
  have r14 := U14.at r13.out ng13.out
  have hT14 : s14.T = [fullT 7 0, fullT 8 0] := by
    rw [hs14]; show addT s13.T _ = _
    rw [hT13.out, addT_out (fun e => full_ne (x := 8) (y := 7) (by decide) (List.mem_singleton.1 e))]; rfl
  have tx14 := tx13.out w14 U14
  have hcl : clashOf s14.T = none := by
    rw [hT14]
    exact clash_pair (fun e => hu (by rw [hS.out]; exact e.symm))
  have hsh : ∀ t ∈ s14.T, t.length ≤ 1000000000 := fun t ht => by
    rw [hT14] at ht
    simp only [List.mem_cons, List.not_mem_nil, or_false] at ht
    rcases ht with rfl | rfl <;> rw [full0_length] <;> omega
  have cc := fun wx (px : PoolAt wx l R14 s14) => pclash_at px hsh
  rw [hcl] at cc
  have stD := st14.drew
  have q0 := (ref_cells (w := w14.drew) r14).1
  have txD := tx14.drew
  have cf := full_loop w14.drew 7 (by omega) 0
  have esm := fullT_small (x := 7) (by omega) 0
  generalize hF7 : fullT 7 0 = F7 at *
  clear cg p14 k14 U14 st13 tx13 r13 ng13 hs14 hT14 hsh hcl st14 r14 tx14
  replace stD := Lib.hid stD
  replace txD := Lib.hid txD
  replace cc := Lib.hid cc
  replace cf := Lib.hid cf
  replace hF7 := Lib.hid hF7
  replace esm := Lib.hid esm
  go_wp2_with fail
  refine wp_region_held_drew (S := (fun w' => TextAt w' (.slice (some ⟨gt, 0, none⟩) 512 ct) F7 ∧ w'.cell? ⟨gb, 0, none⟩ = some (.int .u32 0))) (by kernel_rfl) (⟨txD.out, q0⟩) (fun hHeld => ?_)
  refine held_take (i := 0) (v := ?_) rfl (by kernel_rfl) (by kernel_rfl) (by kernel_rfl) (fun _ _ _ h => h) (Or.inl ⟨by rfl, ?_⟩) (by assumption) ?_
  rotate_left
  · intro w hSw; (try dsimp only at hSw); go_simp; try with_reducible rfl
  try simp only [Act.put, List.setIfInBounds_toArray, List.set_cons_zero, List.set_cons_succ]
  refine held_take (i := 1) (v := ?_) rfl (by kernel_rfl) (by kernel_rfl) (by kernel_rfl) (fun _ _ _ h => h) (Or.inl ⟨by rfl, ?_⟩) (by assumption) ?_
  rotate_left
  · intro w hSw; (try dsimp only at hSw); go_simp; try with_reducible rfl
  try simp only [Act.put, List.setIfInBounds_toArray, List.set_cons_zero, List.set_cons_succ]
  refine held_take (i := 2) (v := ?_) rfl (by kernel_rfl) (by kernel_rfl) (by kernel_rfl) (fun _ _ _ h => h) (Or.inl ⟨by rfl, ?_⟩) (by assumption) ?_
  rotate_left
  · intro w hSw; (try dsimp only at hSw); go_simp; try with_reducible rfl
  try simp only [Act.put, List.setIfInBounds_toArray, List.set_cons_zero, List.set_cons_succ]
  refine held_take (i := 3) (v := ?_) rfl (by kernel_rfl) (by kernel_rfl) (by kernel_rfl) (fun _ _ _ h => h) (Or.inl ⟨by rfl, ?_⟩) (by assumption) ?_
  rotate_left
  · intro w hSw; (try dsimp only at hSw); go_simp; try with_reducible rfl
  try simp only [Act.put, List.setIfInBounds_toArray, List.set_cons_zero, List.set_cons_succ]
  refine held_take (i := 4) (v := ?_) rfl (by kernel_rfl) (by kernel_rfl) (by kernel_rfl) (fun _ _ _ h => h) (Or.inl ⟨by rfl, ?_⟩) (by assumption) ?_
  rotate_left
  · intro w hSw; (try dsimp only at hSw); go_simp; try with_reducible rfl
  try simp only [Act.put, List.setIfInBounds_toArray, List.set_cons_zero, List.set_cons_succ]
  refine held_take (i := 5) (v := ?_) rfl (by kernel_rfl) (by kernel_rfl) (by kernel_rfl) (fun _ _ _ h => h) (Or.inl ⟨by rfl, ?_⟩) (by assumption) ?_
  rotate_left
  · intro w hSw; (try dsimp only at hSw); go_simp; try with_reducible rfl
  try simp only [Act.put, List.setIfInBounds_toArray, List.set_cons_zero, List.set_cons_succ]
  refine held_take (i := 6) (v := ?_) rfl (by kernel_rfl) (by kernel_rfl) (by kernel_rfl) (fun _ _ _ h => h) (Or.inl ⟨by rfl, ?_⟩) (by assumption) ?_
  rotate_left
  · intro w hSw; (try dsimp only at hSw); go_simp; try with_reducible rfl
  try simp only [Act.put, List.setIfInBounds_toArray, List.set_cons_zero, List.set_cons_succ]
  refine held_take (i := 7) (v := ?_) rfl (by kernel_rfl) (by kernel_rfl) (by kernel_rfl) (fun _ _ _ h => h) (Or.inl ⟨by rfl, ?_⟩) (by assumption) ?_
  rotate_left
  · intro w hSw; (try dsimp only at hSw); go_simp; try with_reducible rfl
  try simp only [Act.put, List.setIfInBounds_toArray, List.set_cons_zero, List.set_cons_succ]
  refine held_take (i := 8) (v := ?_) rfl (by kernel_rfl) (by kernel_rfl) (by kernel_rfl) (fun _ _ _ h => h) (Or.inl ⟨by rfl, ?_⟩) (by assumption) ?_
  rotate_left
  · intro w hSw; (try dsimp only at hSw); go_simp; try with_reducible rfl
  try simp only [Act.put, List.setIfInBounds_toArray, List.set_cons_zero, List.set_cons_succ]
  refine held_take (i := 9) (v := ?_) rfl (by kernel_rfl) (by kernel_rfl) (by kernel_rfl) (fun _ _ _ h => h) (Or.inl ⟨by rfl, ?_⟩) (by assumption) ?_
  rotate_left
  · intro w hSw; (try dsimp only at hSw); go_simp; try with_reducible rfl
  try simp only [Act.put, List.setIfInBounds_toArray, List.set_cons_zero, List.set_cons_succ]
  refine held_take (i := 10) (v := ?_) rfl (by kernel_rfl) (by kernel_rfl) (by kernel_rfl) (fun _ _ _ h => h) (Or.inl ⟨by rfl, ?_⟩) (by assumption) ?_
  rotate_left
  · intro w hSw; (try dsimp only at hSw); go_simp; try with_reducible rfl
  try simp only [Act.put, List.setIfInBounds_toArray, List.set_cons_zero, List.set_cons_succ]
  refine held_take (i := 11) (v := ?_) rfl (by kernel_rfl) (by kernel_rfl) (by kernel_rfl) (fun _ _ _ h => h) (Or.inl ⟨by rfl, ?_⟩) (by assumption) ?_
  rotate_left
  · intro w hSw; (try dsimp only at hSw); go_simp; try with_reducible rfl
  try simp only [Act.put, List.setIfInBounds_toArray, List.set_cons_zero, List.set_cons_succ]
  refine held_take (i := 12) (v := ?_) rfl (by kernel_rfl) (by kernel_rfl) (by kernel_rfl) (fun _ _ _ h => h) (Or.inl ⟨by rfl, ?_⟩) (by assumption) ?_
  rotate_left
  · intro w hSw; (try dsimp only at hSw); go_simp; try with_reducible rfl
  try simp only [Act.put, List.setIfInBounds_toArray, List.set_cons_zero, List.set_cons_succ]
  refine held_take (i := 13) (v := ?_) rfl (by kernel_rfl) (by kernel_rfl) (by kernel_rfl) (fun _ _ _ h => h) (Or.inl ⟨by rfl, ?_⟩) (by assumption) ?_
  rotate_left
  · intro w hSw; (try dsimp only at hSw); go_simp; try with_reducible rfl
  try simp only [Act.put, List.setIfInBounds_toArray, List.set_cons_zero, List.set_cons_succ]
  refine held_take (i := 14) (v := ?_) rfl (by kernel_rfl) (by kernel_rfl) (by kernel_rfl) (fun _ _ _ h => h) (Or.inl ⟨by rfl, ?_⟩) (by assumption) ?_
  rotate_left
  · intro w hSw; (try dsimp only at hSw); go_simp; try with_reducible rfl
  try simp only [Act.put, List.setIfInBounds_toArray, List.set_cons_zero, List.set_cons_succ]
  refine held_take (i := 15) (v := ?_) rfl (by kernel_rfl) (by kernel_rfl) (by kernel_rfl) (fun _ _ _ h => h) (Or.inl ⟨by rfl, ?_⟩) (by assumption) ?_
  rotate_left
  · intro w hSw; (try dsimp only at hSw); go_simp; try with_reducible rfl
  try simp only [Act.put, List.setIfInBounds_toArray, List.set_cons_zero, List.set_cons_succ]
  refine held_take (i := 16) (v := ?_) rfl (by kernel_rfl) (by kernel_rfl) (by kernel_rfl) (fun _ _ _ h => h) (Or.inl ⟨by rfl, ?_⟩) (by assumption) ?_
  rotate_left
  · intro w hSw; (try dsimp only at hSw); go_simp; try with_reducible rfl
  try simp only [Act.put, List.setIfInBounds_toArray, List.set_cons_zero, List.set_cons_succ]
  refine held_take (i := 17) (v := ?_) rfl (by kernel_rfl) (by kernel_rfl) (by kernel_rfl) (fun _ _ _ h => h) (Or.inl ⟨by rfl, ?_⟩) (by assumption) ?_
  rotate_left
  · intro w hSw; (try dsimp only at hSw); go_simp; try with_reducible rfl
  try simp only [Act.put, List.setIfInBounds_toArray, List.set_cons_zero, List.set_cons_succ]
  refine held_take (i := 18) (v := ?_) rfl (by kernel_rfl) (by kernel_rfl) (by kernel_rfl) (fun _ _ _ h => h) (Or.inl ⟨by rfl, ?_⟩) (by assumption) ?_
  rotate_left
  · intro w hSw; (try dsimp only at hSw); go_simp; try with_reducible rfl
  try simp only [Act.put, List.setIfInBounds_toArray, List.set_cons_zero, List.set_cons_succ]
  refine held_take (i := 19) (v := ?_) rfl (by kernel_rfl) (by kernel_rfl) (by kernel_rfl) (fun _ _ _ h => h) (Or.inl ⟨by rfl, ?_⟩) (by assumption) ?_
  rotate_left
  · intro w hSw; (try dsimp only at hSw); go_simp; try with_reducible rfl
  try simp only [Act.put, List.setIfInBounds_toArray, List.set_cons_zero, List.set_cons_succ]
  refine held_take (i := 20) (v := ?_) rfl (by kernel_rfl) (by kernel_rfl) (by kernel_rfl) (fun _ _ _ h => h) (Or.inl ⟨by rfl, ?_⟩) (by assumption) ?_
  rotate_left
  · intro w hSw; (try dsimp only at hSw); go_simp; try with_reducible rfl
  try simp only [Act.put, List.setIfInBounds_toArray, List.set_cons_zero, List.set_cons_succ]
  refine held_take (i := 21) (v := _) rfl (by kernel_rfl) (by kernel_rfl) (by kernel_rfl) (fun _ _ _ h => h) (yieldsIf_str (by rfl) rfl rfl (v := .slice (some ⟨gt, 0, none⟩) 512 ct) (fun w' h => h.1)) (by assumption) ?_
  try simp only [Act.put, List.setIfInBounds_toArray, List.set_cons_zero, List.set_cons_succ]
  refine held_ready (i := 22) rfl (by kernel_rfl) (fun K hK => ?_)
  go_simp
  refine cf.out.mono ?_
  rintro e w15 ⟨v15, rfl, _, B15, tx15⟩
  have tx15' := txD.out.below B15
  have q15 := (B15.cell (block_lt_of_cell q0)).trans q0
  have st15 := stD.out.below B15
  replace tx15 := Lib.hid tx15
  replace tx15' := Lib.hid tx15'
  replace st15 := Lib.hid st15
  replace B15 := Lib.hid B15
  refine hK.out _ _ (⟨tx15'.out, q15⟩) (fun hHeldN => ?_)
  clear hHeld hK K
  have hHeld := hHeldN
  clear hHeldN
  try simp only [Act.put, List.setIfInBounds_toArray, List.set_cons_zero, List.set_cons_succ]
  refine held_ready (i := 23) rfl (by kernel_rfl) (fun K hK => ?_)
  rw [if_pos (by rfl)]
  refine wp_str rfl rfl tx15.out ?_
  refine hK.out _ _ (⟨tx15'.out, q15⟩) (fun hHeldN => ?_)
  clear hHeld hK K
  have hHeld := hHeldN
  clear hHeldN
  try simp only [Act.put, List.setIfInBounds_toArray, List.set_cons_zero, List.set_cons_succ]
  refine held_take (i := 24) (v := ?_) rfl (by kernel_rfl) (by kernel_rfl) (by kernel_rfl) (fun _ _ _ h => h) (Or.inl ⟨by rfl, ?_⟩) (by assumption) ?_
  rotate_left
  · intro w hSw; (try dsimp only at hSw); go_simp; try with_reducible rfl
  try simp only [Act.put, List.setIfInBounds_toArray, List.set_cons_zero, List.set_cons_succ]
  refine held_take (i := 25) (v := ?_) rfl (by kernel_rfl) (by kernel_rfl) (by kernel_rfl) (fun _ _ _ h => h) (Or.inl ⟨by rfl, ?_⟩) (by assumption) ?_
  rotate_left
  · intro w hSw; (try dsimp only at hSw); go_simp; try with_reducible rfl
  try simp only [Act.put, List.setIfInBounds_toArray, List.set_cons_zero, List.set_cons_succ]
  refine held_take (i := 26) (v := ?_) rfl (by kernel_rfl) (by kernel_rfl) (by kernel_rfl) (fun _ _ _ h => h) (Or.inl ⟨by rfl, ?_⟩) (by assumption) ?_
  rotate_left
  · intro w hSw; (try dsimp only at hSw); go_simp; try with_reducible rfl
  try simp only [Act.put, List.setIfInBounds_toArray, List.set_cons_zero, List.set_cons_succ]
  refine held_take (i := 27) (v := ?_) rfl (by kernel_rfl) (by kernel_rfl) (by kernel_rfl) (fun _ _ _ h => h) (Or.inl ⟨by rfl, ?_⟩) (by assumption) ?_
  rotate_left
  · intro w hSw; (try dsimp only at hSw); go_simp; try with_reducible rfl
  try simp only [Act.put, List.setIfInBounds_toArray, List.set_cons_zero, List.set_cons_succ]
  refine held_take (i := 28) (v := ?_) rfl (by kernel_rfl) (by kernel_rfl) (by kernel_rfl) (fun _ _ _ h => h) (Or.inl ⟨by rfl, ?_⟩) (by assumption) ?_
  rotate_left
  · intro w hSw; (try dsimp only at hSw); go_simp; try with_reducible rfl
  try simp only [Act.put, List.setIfInBounds_toArray, List.set_cons_zero, List.set_cons_succ]
  refine held_take (i := 29) (v := ?_) rfl (by kernel_rfl) (by kernel_rfl) (by kernel_rfl) (fun _ _ _ h => h) (Or.inl ⟨by rfl, ?_⟩) (by assumption) ?_
  rotate_left
  · intro w hSw; (try dsimp only at hSw); go_simp; try with_reducible rfl
  try simp only [Act.put, List.setIfInBounds_toArray, List.set_cons_zero, List.set_cons_succ]
  refine held_take (i := 30) (v := ?_) rfl (by kernel_rfl) (by kernel_rfl) (by kernel_rfl) (fun _ _ _ h => h) (Or.inl ⟨by rfl, ?_⟩) (by assumption) ?_
  rotate_left
  · intro w hSw; (try dsimp only at hSw); go_simp; try with_reducible rfl
  try simp only [Act.put, List.setIfInBounds_toArray, List.set_cons_zero, List.set_cons_succ]
  refine held_take (i := 31) (v := ?_) rfl (by kernel_rfl) (by kernel_rfl) (by kernel_rfl) (fun _ _ _ h => h) (Or.inl ⟨by rfl, ?_⟩) (by assumption) ?_
  rotate_left
  · intro w hSw; (try dsimp only at hSw); go_simp; try with_reducible rfl
  try simp only [Act.put, List.setIfInBounds_toArray, List.set_cons_zero, List.set_cons_succ]
  refine held_ready (i := 32) rfl (by kernel_rfl) (fun K hK => ?_)
  go_simp
  refine (cc.out _ st15.out.p).mono ?_
  rintro e w16 ⟨rfl, B16⟩
  have tx16 := tx15'.out.below B16
  have q16 := (B16.cell (block_lt_of_cell q15)).trans q15
  have st16 := st15.out.below B16
  replace tx16 := Lib.hid tx16
  replace st16 := Lib.hid st16
  replace B16 := Lib.hid B16
  refine hK.out _ _ (⟨tx16.out, q16⟩) (fun hHeldN => ?_)
  clear hHeld hK K
  have hHeld := hHeldN
  clear hHeldN
  try simp only [Act.put, List.setIfInBounds_toArray, List.set_cons_zero, List.set_cons_succ]
  refine held_take (i := 33) (v := ?_) rfl (by kernel_rfl) (by kernel_rfl) (by kernel_rfl) (fun _ _ _ h => h) (Or.inl ⟨by rfl, ?_⟩) (by assumption) ?_
  rotate_left
  · intro w hSw; (try dsimp only at hSw); go_simp; try with_reducible rfl
  try simp only [Act.put, List.setIfInBounds_toArray, List.set_cons_zero, List.set_cons_succ]
  refine held_take (i := 34) (v := ?_) rfl (by kernel_rfl) (by kernel_rfl) (by kernel_rfl) (fun _ _ _ h => h) (Or.inl ⟨by rfl, ?_⟩) (by assumption) ?_
  rotate_left
  · intro w hSw; (try dsimp only at hSw); go_simp; try with_reducible rfl
  try simp only [Act.put, List.setIfInBounds_toArray, List.set_cons_zero, List.set_cons_succ]
  refine held_take (i := 35) (v := ?_) rfl (by kernel_rfl) (by kernel_rfl) (by kernel_rfl) (fun _ _ _ h => h) (Or.inl ⟨by rfl, ?_⟩) (by assumption) ?_
  rotate_left
  · intro w hSw; (try dsimp only at hSw); go_simp; try with_reducible rfl
  try simp only [Act.put, List.setIfInBounds_toArray, List.set_cons_zero]
  refine wpAnyH_done (by kernel_rfl) ?_ _
  clear hHeld
  go_wp2_with fail
  go_ret
  exact ⟨rfl, st16.out.low⟩
end Go.Proofs.YtjhfoddhpmmjoaaDoor
