/-
  PoolNobody: the walk. The table of math/bits stands in the world: the one condition.
  A law's own pool: Put, Get, Tamper, Fail of it; what a Put tells of its field. The table of math/bits stands in the world; not too many calls.
  Layer 18: 'begin': a pool of twenty extents, of three tenants. The table of math/bits stands in the world: the one condition.
-/
import Derived.Test.YtjhfoddhpmmjoaaDoorQLaw18
import Derived.Test.YtjhfoddhpmmjoaaDoorQPoolLook
namespace Go.Proofs.YtjhfoddhpmmjoaaDoor
set_option maxRecDepth 100000
open Go.RowKit Go.Maps

set_option maxRecDepth 100000 in
theorem pput_no (w : World) (v : Value) (h : NoPool w v) (t : Int) (u : Value) : Calls Tryd.prog 32 #[v, .int .i64 t, u] w fun e w' => e = .returned (.tuple #[.agg (refV 0 noughts32), .int .i64 6]) ∧ Below w.heap.size w w' := by
  have BA : Below w.heap.size w (w.alloc (.cells (refV 0 noughts32) 76)) := (Below.refl _ _).alloc (Nat.le_refl _) _
  have hN : NoPool (w.alloc (.cells (refV 0 noughts32) 76)) v := by
    rcases h with h | ⟨b, o, e, hc⟩
    · exact .inl h
    · exact .inr ⟨b, o, e, (BA.cell (block_lt_of_cell hc)).trans hc⟩
  have cm := pmade_no _ v hN
  replace BA := Lib.hid BA
  replace cm := Lib.hid cm
  replace h := Lib.hid h
  replace hN := Lib.hid hN
  go_enter Tryd.func32, Tryd.ntmps32
  go_wp2_with fail
  refine cm.out.mono ?_
  rintro e w1 ⟨rfl, hw1⟩
  have r1 : w1.heap[w.heap.size]? = some (.cells (refV 0 noughts32) 76 (0, 0)) := hw1 ▸ heap_alloc_new _ _
  have B1 : Below w.heap.size w w1 := hw1 ▸ BA.out
  clear hw1 BA cm hN
  replace r1 := Lib.hid r1
  replace B1 := Lib.hid B1
  go_wp2_with (first
    | refine wpList_build0 (by rfl) 76 rfl _ built_ref0 ?_
    | (refine wpList_store_ref (by rfl) (.tmp 6) (.tmp 15) rfl w.heap.size 0 0 noughts32_length noughts32_length rfl rfl r1.out ?_; intro w2 R2 U2))
  refine ret_ref rfl rfl w.heap.size 0 noughts32_length rfl R2.out ?_
  exact ⟨rfl, B1.out.trans (U2.out.below (fun k hk e => by omega) B1.out.size)⟩
set_option maxRecDepth 100000 in
theorem pget_no (w : World) (v : Value) (h : NoPool w v) (x : Nat) (sum : List Nat) : Calls Tryd.prog 34 #[v, .agg (refV x sum)] w fun e w' => e = .returned (.tuple #[.slice none 0 0, .int .i64 6]) ∧ Below w.heap.size w w' := by
  have BA : Below w.heap.size w (w.alloc (.cells (refV x sum) 76)) := (Below.refl _ _).alloc (Nat.le_refl _) _
  have hN : NoPool (w.alloc (.cells (refV x sum) 76)) v := by
    rcases h with h | ⟨b, o, e, hc⟩
    · exact .inl h
    · exact .inr ⟨b, o, e, (BA.cell (block_lt_of_cell hc)).trans hc⟩
  have cm := pmade_no _ v hN
  replace BA := Lib.hid BA
  replace cm := Lib.hid cm
  replace h := Lib.hid h
  replace hN := Lib.hid hN
  go_enter Tryd.func34, Tryd.ntmps34
  go_wp2_with fail
  refine cm.out.mono ?_
  rintro e w1 ⟨rfl, hw1⟩
  have B1 : Below w.heap.size w w1 := hw1 ▸ BA.out
  clear hw1 BA cm hN
  replace B1 := Lib.hid B1
  go_wp2_with fail
  go_ret2
  exact ⟨rfl, B1.out⟩
/-- A law's own blocks: the reference that came, and a pool that no call made. -/
structure Nob18 (w0 w : World) (x : Nat) (sum : List Nat) : Prop where
  r : w.heap[w0.heap.size]? = some (.cells (refV x sum) 76 (0, 0))
  u : w.heap[w0.heap.size + 1]? = some (.cells #[.pointer none, .pointer none, .pointer none, .nilFunc] 82 (0, 0))
  low : Below w0.heap.size w0 w
theorem Nob18.below {w0 w w' : World} {x : Nat} {sum : List Nat} (h : Nob18 w0 w x sum) (hB : Below w.heap.size w w') : Nob18 w0 w' x sum :=
  ⟨(hB.block _ (lt_of_block h.r)).trans h.r, (hB.block _ (lt_of_block h.u)).trans h.u, h.low.trans (hB.mono h.low.size)⟩
theorem Nob18.no {w0 w : World} {x : Nat} {sum : List Nat} (h : Nob18 w0 w x sum) : NoPool w (.pointer (some ⟨w0.heap.size + 1, 0, none⟩)) :=
  .inr ⟨_, 0, rfl, (cell_of_row _ _ 2 _ _ _ h.u).trans rfl⟩
set_option maxHeartbeats 4000000 in
set_option maxRecDepth 100000 in
theorem nobody18_any (w : World) (hT : TabAt w) (t : Int) (y : Nat) (hy : y < 256) (x : Nat) (sum : List Nat) (hs : sum.length = 32) :
    Calls Tryd.prog 8 #[.int .i64 t, .int .u8 (y : Int), .agg (refV x sum)] w fun e w' => e = .returned (.bool true) ∧ Below w.heap.size w w' := by
  have cf := fun wx => full_loop wx y hy 0
  have st0 : Nob18 w ((w.alloc (.cells (refV x sum) 76)).alloc (.cells #[.pointer none, .pointer none, .pointer none, .nilFunc] 82)) x sum :=
    ⟨by rw [heap_alloc_old (h := by simp)]; exact heap_alloc_new _ _, heap_alloc2_new _ _ _, ((Below.refl _ _).alloc (Nat.le_refl _) _).alloc (by simp) _⟩
  replace hT := Lib.hid hT
  replace cf := Lib.hid cf
  replace st0 := Lib.hid st0
  go_enter Tryd.func8, Tryd.ntmps8
  go_wp2_with fail
  refine (cf.out _).mono ?_
  rintro e w1 ⟨v1, rfl, _, B1, _⟩
  have st1 := st0.out.below B1
  clear st0 B1
  replace st1 := Lib.hid st1
  go_wp2_with fail
  refine (pput_no w1 _ (.inl rfl) t v1).mono ?_
  rintro e w2 ⟨rfl, B2⟩
  have st2 := st1.out.below B2
  clear st1 B2
  replace st2 := Lib.hid st2
  go_wp2_with (refine wpList_store_new (by rfl) (.tmp 9) (.tmp 25) rfl (refV 0 noughts32) rfl rfl (infoRef 0 noughts32_length) (refV_size 0 noughts32_length).symm (refV_one 0 noughts32) ?_; intro w3 R3 B3; have st3 := st2.out.below B3.out; replace st3 := Lib.hid st3)
  refine (cf.out _).mono ?_
  rintro e w4 ⟨v4, rfl, _, B4, _⟩
  have st4 := st3.out.below B4
  clear st2 st3 B3 R3 B4
  have n4 := st4.no
  replace st4 := Lib.hid st4
  replace n4 := Lib.hid n4
  go_wp2_with fail
  refine (pput_no w4 _ n4.out t v4).mono ?_
  rintro e w5 ⟨rfl, B5⟩
  have st5 := st4.out.below B5
  clear st4 B5 n4
  replace st5 := Lib.hid st5
  go_wp2_with (first
    | (refine wpList_store_new (by rfl) (.tmp 11) (.tmp 32) rfl (refV 0 noughts32) rfl rfl (infoRef 0 noughts32_length) (refV_size 0 noughts32_length).symm (refV_one 0 noughts32) ?_; intro w6 R6 B6; have st6 := st5.out.below B6.out; have r6 := st6.r; replace st6 := Lib.hid st6; replace r6 := Lib.hid r6)
    | refine wpList_load_row (by rfl) 76 (.tmp 5) rfl w.heap.size rfl 76 (refV x sum) (0, 0) _ r6.out Tryd.underlying76 rfl (infoRef x hs) ?_)
  refine (pget_no w6 _ (.inl rfl) x sum).mono ?_
  rintro e w7 ⟨rfl, B7⟩
  have st7 := st6.out.below B7
  have r7 := st7.r
  have n7 := st7.no
  clear st5 st6 B6 R6 r6 B7
  replace st7 := Lib.hid st7
  replace r7 := Lib.hid r7
  replace n7 := Lib.hid n7
  go_wp2_with (refine wpList_load_row (by rfl) 76 (.tmp 5) rfl w.heap.size rfl 76 (refV x sum) (0, 0) _ r7.out Tryd.underlying76 rfl (infoRef x hs) ?_)
  refine (pget_no w7 _ n7.out x sum).mono ?_
  rintro e w8 ⟨rfl, B8⟩
  have st8 := st7.out.below B8
  clear st7 r7 n7 B8
  replace st8 := Lib.hid st8
  go_wp2_with fail
  refine (pnew_nil w8).mono ?_
  rintro e w9 ⟨rfl, B9⟩
  have st9 := st8.out.below B9
  have al := alive_any18 w9 (hT.out.below st9.low)
  clear st8 B9
  replace st9 := Lib.hid st9
  replace al := Lib.hid al
  go_wp2_with fail
  refine al.out.mono ?_
  rintro e w10 ⟨rfl, B10⟩
  have st10 := st9.out.below B10
  have n10 := st10.no
  clear st9 al B10
  replace st10 := Lib.hid st10
  replace n10 := Lib.hid n10
  go_wp2_with fail
  refine (pfield_no w10 _ (.inl rfl)).mono ?_
  rintro e _ ⟨rfl, rfl⟩
  go_wp2_with fail
  refine (pfield_no w10 _ n10.out).mono ?_
  rintro e _ ⟨rfl, rfl⟩
  go_wp2_with fail
  refine (pclash_no w10 _ (.inl rfl)).mono ?_
  rintro e _ ⟨rfl, rfl⟩
  go_wp2_with fail
  refine (pclash_no w10 _ n10.out).mono ?_
  rintro e _ ⟨rfl, rfl⟩
  go_wp2_with fail
  go_ret
  exact ⟨rfl, st10.out.low⟩
end Go.Proofs.YtjhfoddhpmmjoaaDoor
namespace Go.Proofs.YtjhfoddhpmmjoaaDoor
set_option maxRecDepth 100000
open Go.RowKit Go.Maps

section
variable {w0 w : World} {l : Pl} {R : Nat → Prop} {s : Ps}
theorem pool_put (st : PlSt w0 w l R s) (hT : TabAt w0) (hok : s.Ok) (t : Int) (v : Value) (b : List Nat) (hb : ∀ w', Upd R w w' → TextAt w' v b) (hl : b.length < 1000000000) :
    Calls Tryd.prog 32 #[.pointer (some ⟨l.p, 0, none⟩), .int .i64 t, v] w fun e w' => ∃ x sum E s' R', e = .returned (.tuple #[.agg (refV x sum), .int .i64 E]) ∧ PutRel s t b x sum E s' ∧ PlSt w0 w' l R' s' ∧ (∀ k, R' k → R k ∨ w.heap.size ≤ k) ∧ Upd R w w' := by
  refine (pput_any st.p (hT.below st.low) hok t v b hb hl).mono ?_
  rintro e w' ⟨x, sum, E, s', R', rfl, rel, p', hk, U⟩
  exact ⟨x, sum, E, s', R', rfl, rel, st.turn p' hk U, fun k h => (hk k h).1, U⟩
theorem pool_fail (st : PlSt w0 w l R s) (c : Nat) : Calls Tryd.prog 41 #[.pointer (some ⟨l.db, 0, none⟩), .int .i64 (c : Int)] w fun e w' => e = .returned (.int .i64 0) ∧ ∃ R', PlSt w0 w' l R' { s with D := { s.D with plan := true, left := c } } ∧ (∀ k, R' k → R k ∨ w.heap.size ≤ k) ∧ Upd R w w' := by
  obtain ⟨FD, hd, hF, turn⟩ := st.p.disk
  obtain ⟨ms, mh, wv, hP⟩ := hd
  refine (dfail_ok hP c).mono ?_
  rintro e w' ⟨rfl, P', U⟩
  have U2 : Upd FD w w' := U.mono fun k _ e => by rw [e]; exact hP.fb
  obtain ⟨R', p', hk, u⟩ := turn w' { s.D with plan := true, left := c } ⟨ms, mh, wv, P'.mono fun _ h => .inl h⟩ U2 rfl
  exact ⟨rfl, R', st.turn p' hk u, fun k h => (hk k h).1, u⟩
theorem pool_tamper (st : PlSt w0 w l R s) (hq : s.D.waits.length < 1000000000) (a : Nat) (ha : a < 4294967296) (v : Value) (t : List Nat) (ht : TextAt w v t) :
    Calls Tryd.prog 40 #[.pointer (some ⟨l.db, 0, none⟩), .int .u32 (a : Int), v] w fun e w' => e = .returned (.int .i64 (s.D.tamperE a t.length)) ∧ ∃ R', PlSt w0 w' l R' { s with D := s.D.tamperD a t } ∧ (∀ k, R' k → R k ∨ w.heap.size ≤ k) ∧ Upd R w w' := by
  obtain ⟨FD, hd, hF, turn⟩ := st.p.disk
  refine (dtamper_any hd a ha v t ht hq).mono ?_
  rintro e w' ⟨rfl, D', U⟩
  obtain ⟨R', p', hk, u⟩ := turn w' _ D' U (tamperD_same _ _ _).1
  exact ⟨rfl, R', st.turn p' hk u, fun k h => (hk k h).1, u⟩
def PGetSays (w0 w : World) (l : Pl) (R : Nat → Prop) (s : Ps) (x : Nat) (sum : List Nat) (e : Ending) (w' : World) : Prop :=
  ∃ (s' : Ps) (R' : Nat → Prop), PlSt w0 w' l R' s' ∧ (∀ k, R' k → R k ∨ w.heap.size ≤ k) ∧ Upd R w w' ∧
    ((s.n ≤ x ∧ e = .returned (.tuple #[.slice none 0 0, .int .i64 1]) ∧ s' = s) ∨
     (x < s.n ∧ s.D.down = true ∧ e = .returned (.tuple #[.slice none 0 0, .int .i64 30]) ∧ s' = s) ∨
     (x < s.n ∧ s.D.down = false ∧ s' = { s with T := addT s.T (s.D.look (s.start + x)) } ∧
       ((sumOf (s.D.look (s.start + x)) ≠ sum ∧ e = .returned (.tuple #[.slice none 0 0, .int .i64 40])) ∨
        (sumOf (s.D.look (s.start + x)) = sum ∧ ∃ g cap, e = .returned (.tuple #[.slice (some ⟨g, 0, none⟩) 512 cap, .int .i64 0]) ∧ ∀ wx, Upd R' w' wx → TextAt wx (.slice (some ⟨g, 0, none⟩) 512 cap) (s.D.look (s.start + x))))))
theorem pool_get (st : PlSt w0 w l R s) (hT : s.T.length < 1000000000) (x : Nat) (hx : x < 4294967296) (sum : List Nat) (hs : sum.length = 32) (hss : ∀ y ∈ sum, y < 256) :
    Calls Tryd.prog 34 #[.pointer (some ⟨l.p, 0, none⟩), .agg (refV x sum)] w (PGetSays w0 w l R s x sum) := by
  refine (pget_any st.p hT x hx sum hs hss).mono ?_
  rintro e w' ⟨s', R', p', hk, U, h⟩
  exact ⟨s', R', st.turn p' hk U, fun k h => (hk k h).1, U, h⟩
end
theorem PutRel.length {s s' : Ps} {t E : Int} {b sum : List Nat} {x : Nat} (h : PutRel s t b x sum E s') : sum.length = 32 ∧ ∀ y ∈ sum, y < 256 := by
  have z : noughts32.length = 32 ∧ ∀ y ∈ noughts32, y < 256 := ⟨noughts32_length, by intro y hy; have := (List.mem_replicate.1 hy).2; omega⟩
  by_cases h1 : b.length = 512
  · by_cases h2 : takeE s.n s.E t = 0
    · obtain ⟨y, _, _, _, h3⟩ := h.done h1 h2
      rcases h3 with ⟨_, _, _, rfl, _⟩ | ⟨_, _, _, rfl, _⟩
      · exact z
      · exact ⟨length_sumOf b, sumOf_lt b⟩
    · obtain ⟨_, _, _, rfl⟩ := h.full h1 h2; exact z
  · obtain ⟨_, _, _, rfl⟩ := h.long h1; exact z
theorem takeE_in {n : Nat} {T : Nat → Ten} {t : Int} (hi : isIn T t = true) : takeE n T t = 0 ∨ takeE n T t = 60 ∨ takeE n T t = 61 := by
  unfold takeE
  rw [if_neg (by rw [hi]; decide)]
  unfold roomE
  split
  · exact .inr (.inl rfl)
  · split
    · exact .inr (.inr rfl)
    · exact .inl rfl
theorem writeE_in {D : Dk} {s len : Nat} (h1 : s < D.n) (h2 : len = 512) (h : D.writeE s len ≠ 0) : D.writeE s len = 30 := by
  unfold Dk.writeE at h ⊢
  split
  · rfl
  · rename_i a
    rw [if_neg a] at h
    rw [if_neg (by omega), if_neg (by simp [h2])] at h ⊢
    unfold Dk.changeE at h ⊢
    split
    · rfl
    · rename_i q; rw [if_neg q] at h; exact absurd rfl h
/-- What a Put tells of the field. -/
theorem PutRel.field {s s' : Ps} {t E : Int} {b sum : List Nat} {x : Nat} (h : PutRel s t b x sum E s') (hb : b.length = 512) (hi : isIn s.E t = true) (hf : s.start + s.n ≤ s.D.n) :
    s'.n = s.n ∧ s'.start = s.start ∧ ((E = 0 ∧ s'.E = bumpT s.E t.toNat) ∨ ((E = 60 ∨ E = 61 ∨ E = 30) ∧ s'.E = s.E ∧ s'.L = s.L)) := by
  by_cases h2 : takeE s.n s.E t = 0
  · obtain ⟨y, hy, _, _, h3⟩ := h.done hb h2
    rcases h3 with ⟨hw, rfl, _, _, rfl⟩ | ⟨_, rfl, _, _, rfl⟩
    · exact ⟨rfl, rfl, .inr ⟨.inr (.inr (writeE_in (by omega) hb hw)), rfl, rfl⟩⟩
    · exact ⟨rfl, rfl, .inl ⟨rfl, rfl⟩⟩
  · obtain ⟨rfl, rfl, _⟩ := h.full hb h2
    refine ⟨rfl, rfl, .inr ⟨?_, rfl, rfl⟩⟩
    rcases takeE_in (n := s'.n) hi with e | e | e
    · exact absurd e h2
    · exact .inl e
    · exact .inr (.inl e)
theorem chargeI_bump {T : Nat → Ten} {t : Int} (hi : isIn T t = true) : chargeI (bumpT T t.toNat) t = chargeI T t + 1 := by
  have hi2 : isIn (bumpT T t.toNat) t = true := by
    unfold isIn at hi ⊢
    unfold bumpT
    rw [setT_same]
    exact hi
  unfold chargeI
  rw [hi, hi2, if_pos rfl, if_pos rfl]
  unfold bumpT
  rw [setT_same]
theorem bumpT_on (T : Nat → Ten) (t k : Nat) : (bumpT T t k).on = (T k).on := by
  unfold bumpT
  by_cases e : k = t
  · subst e; rw [setT_same]
  · rw [setT_other _ _ e]
theorem isIn_of_on {T : Nat → Ten} {t : Nat} (h1 : 1 ≤ t) (h8 : t ≤ 8) (h : (T t).on = true) : isIn T (t : Int) = true := by
  rw [isIn_nat h1 (by omega), h]
end Go.Proofs.YtjhfoddhpmmjoaaDoor
namespace Go.Proofs.YtjhfoddhpmmjoaaDoor
set_option maxRecDepth 100000
open Go.RowKit Go.Maps

def EB : Nat → Nat → Ten
  | 0 => fun _ => Ten.no
  | t + 1 => admitT 20 (EB t) ((t + 1 : Nat) : Int) ((t + 1 : Nat) : Int) (4 * ((t + 1 : Nat) : Int))
theorem eb_admit {t : Nat} (h : t < 3) : admitE 20 (EB t) ((t + 1 : Nat) : Int) ((t + 1 : Nat) : Int) (4 * ((t + 1 : Nat) : Int)) = 0 := by
  rcases (show t = 0 ∨ t = 1 ∨ t = 2 by omega) with rfl | rfl | rfl <;> decide
theorem eb_on {t : Nat} (h1 : 1 ≤ t) (h3 : t ≤ 3) : (EB 3 t).on = true := by
  rcases (show t = 1 ∨ t = 2 ∨ t = 3 by omega) with rfl | rfl | rfl <;> decide
def sB (t : Nat) : Ps := ⟨5, 20, 0, Dk.new 25, [], fun _ => 0, EB t⟩
theorem sB_le (t : Nat) : (sB t).Le 0 := ⟨Nat.le_refl _, Nat.le_refl _, Nat.le_refl _, Nat.le_refl _, by show 0 ≤ _; decide⟩
set_option maxHeartbeats 4000000 in
set_option maxRecDepth 100000 in
theorem begin18_any (w : World) : Calls Tryd.prog 39 #[] w fun e w' => ∃ l R, e = .returned (.tuple #[.pointer (some ⟨l.db, 0, none⟩), .pointer (some ⟨l.p, 0, none⟩), .bool true]) ∧ PlSt w w' l R (sB 3) := by
  have c1 := dnew_any w 25 (by omega) (by omega)
  replace c1 := Lib.hid c1
  go_enter Tryd.func39, Tryd.ntmps39
  go_wp2_with fail
  refine c1.out.mono ?_
  rintro e w1 ⟨db, rfl, D1, B1⟩
  have c2 := lnew_any w1
  clear c1
  replace D1 := Lib.hid D1
  replace B1 := Lib.hid B1
  replace c2 := Lib.hid c2
  go_wp2_with fail
  refine c2.out.mono ?_
  rintro e w2 ⟨lb, rfl, L2, B2⟩
  obtain ⟨FD, FL, D2, L2', hF, hL, h0⟩ := pool_parts D1.out L2 B1.out B2
  have B02 := B1.out.trans (B2.mono B1.out.size)
  have c3 := pnew_ok D2 L2' 5 20 (by omega) (by omega) (by show 5 + 20 ≤ 25; omega) hF hL
  clear c2 D1 L2 D2 L2' hF hL B1 B2
  replace c3 := Lib.hid c3
  replace h0 := Lib.hid h0
  replace B02 := Lib.hid B02
  go_wp2_with fail
  refine c3.out.mono ?_
  rintro e w3 ⟨l, rfl, rfl, rfl, P3, hk3, B3⟩
  have st3 : PlSt w w3 l (l.all FD FL) (sB 0) := P3.made h0.out hk3 B02.out B3
  generalize l.all FD FL = R at *
  clear c3 h0 P3 hk3 B3 B02
  replace st3 := Lib.hid st3
  go_wp2_with fail
  go_loopw [7] (fun tv wr => ∃ t : Nat, t ≤ 3 ∧ tv = .int .i64 ((t : Int) + 1) ∧ Hid (PlSt w wr l R (sB t))) (fun tv _ => 4 - (intOf tv).toNat)
  case atStart => exact ⟨0, by decide, rfl, st3⟩
  case round =>
    clear st3
    obtain ⟨t, ht, rfl, st⟩ := hrel
    by_cases hlt : t < 3
    · have d1 : decide ((t : Int) + 1 < 4) = true := decide_eq_true (by omega)
      have d2 : IntKind.i64.wrap (4 * ((t : Int) + 1)) = 4 * ((t : Int) + 1) := IntWalk.i64_in _ (by omega)
      have cf := pfield_at st.out.p
      have ca := eadmit_any st.out.p.field.1 ((t : Int) + 1) ((t : Int) + 1) (4 * ((t : Int) + 1))
      have e1 : ((t + 1 : Nat) : Int) = (t : Int) + 1 := by omega
      have eE : admitE (sB t).n (sB t).E ((t : Int) + 1) ((t : Int) + 1) (4 * ((t : Int) + 1)) = 0 := by rw [← e1]; exact eb_admit hlt
      rw [eE] at ca
      clear e1
      replace st := Lib.hid st
      replace cf := Lib.hid cf
      replace ca := Lib.hid ca
      replace eE := Lib.hid eE
      go_wp2_with fail
      refine cf.out.mono ?_
      rintro e _ ⟨rfl, rfl⟩
      go_wp2_with fail
      refine ca.out.mono ?_
      rintro e w4 ⟨rfl, F4, U4⟩
      obtain ⟨p4, k4, u4⟩ := st.out.p.field.2 _ _ _ _ F4 U4
      have st4 : PlSt w w4 l R (sB (t + 1)) := st.out.turn p4 k4 u4
      clear cf ca F4 U4 p4 k4 u4 st
      replace st4 := Lib.hid st4
      go_wp2_with fail
      go_roundw
      case rel => exact ⟨t + 1, by omega, by go_num, st4⟩
      case measure => simp [intOf]; omega
    · obtain rfl : t = 3 := by omega
      go_wp2_with fail
      go_ret3
      exact ⟨l, R, rfl, st.out⟩
end Go.Proofs.YtjhfoddhpmmjoaaDoor
